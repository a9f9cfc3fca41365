/- Words of this session's own: what a call has made so far, as one list of blocks and rows that are all apart; a function value by what it answers. No condition of any statement stands here. -/
import Derived.Test.YtlbhfbanbdahdaaWMore
import Derived.Test.YtlbhfbanbdahdaaWN
import Derived.Test.YtlbhfbanbdahdaaWShare
import Derived.Test.YtlbhfbanbdahdaaWRepsOne
import Derived.Test.YtlbhfbanbdahdaaWInvWords
import Derived.Laws.Rows
import Derived.Laws.Tables
import Derived.WalkKit
import Derived.ChangeKeysEq
import Derived.Laws.StructEq
namespace Go.Proofs.YtlbhfbanbdahdaaM
open Go.RowKit Go.Proofs.YtlbhfbanbdahdaaW.PrintWords Go.Proofs.YtlbhfbanbdahdaaW.PrintLast Go.Proofs.YtlbhfbanbdahdaaW.PrintMore

/-- A block whose cells are known whole, or a row of the call's own with its cells. -/
inductive It where
  | box (g : Nat) (t : TypeId) (cs : Array Value)
  | row (e : TypeId) (v : Value) (cs : List Value)
  | any (own : Nat → Prop) (P : World → Prop)
def It.has : It → Nat → Prop
  | .box g _ _, k => g = k
  | .row _ v _, k => v.ownBlock = some k
  | .any own _, k => own k
/-- P holds of every world that has the blocks of 'own' as W has them. -/
def Holds (own : Nat → Prop) (W : World) (P : World → Prop) : Prop := ∀ W', (∀ k, own k → W'.heap[k]? = W.heap[k]?) → P W'
def It.ok (b : Nat) (W : World) : It → Prop
  | .box g t cs => W.heap[g]? = some (.cells cs t (0, 0)) ∧ b ≤ g
  | .row e v cs => W.ownsRow b e 1 v cs.length cs
  | .any own P => (∀ k, own k → b ≤ k ∧ k < W.heap.size) ∧ Holds own W P
def It.far (x y : It) : Prop := ∀ k, x.has k → ¬ y.has k

theorem lt_of_same {W W' : World} {k : Nat} (h : W'.heap[k]? = W.heap[k]?) (hk : k < W.heap.size) : k < W'.heap.size := by
  rcases Nat.lt_or_ge k W'.heap.size with h1 | h1
  · exact h1
  · rw [Array.getElem?_eq_none h1, Array.getElem?_eq_getElem hk] at h
    cases h
theorem It.far_symm {x y : It} (h : x.far y) : y.far x := fun k hy hx => h k hx hy
theorem It.ok_lt {b : Nat} {W : World} {x : It} (h : x.ok b W) (k : Nat) (hk : x.has k) : k < W.heap.size := by
  cases x with
  | box g t cs =>
    have : g = k := hk
    subst this
    exact blk_lt h.1
  | row e v cs => exact own_lt h k hk
  | any own P => exact (h.1 k hk).2
theorem It.ok_base {b : Nat} {W : World} {x : It} (h : x.ok b W) (k : Nat) (hk : x.has k) : b ≤ k := by
  cases x with
  | box g t cs =>
    have : g = k := hk
    subst this
    exact h.2
  | row e v cs => exact own_base h k hk
  | any own P => exact (h.1 k hk).1
theorem It.ok_move {b : Nat} {W W' : World} {x : It} (h : x.ok b W) (hm : ∀ k, x.has k → W'.heap[k]? = W.heap[k]?) : x.ok b W' := by
  cases x with
  | box g t cs => exact ⟨(hm g rfl).trans h.1, h.2⟩
  | row e v cs => exact own_move h hm
  | any own P => exact ⟨fun k hk => ⟨(h.1 k hk).1, lt_of_same (hm k hk) (h.1 k hk).2⟩, fun W2 h2 => h.2 W2 fun k hk => (h2 k hk).trans (hm k hk)⟩

structure MS (w W : World) (l : List It) : Prop where
  below : Below w.heap.size w W
  ok : ∀ x, x ∈ l → x.ok w.heap.size W
  apart : l.Pairwise It.far

theorem MS.start (w : World) : MS w w [] := ⟨Below.refl _ _, fun x hx => (by cases hx), List.Pairwise.nil⟩
theorem MS.size {w W : World} {l : List It} (h : MS w W l) : w.heap.size ≤ W.heap.size := below_size h.below
theorem MS.step {w W W' : World} {l : List It} (h : MS w W l) (hb : Below W.heap.size W W') : MS w W' l :=
  ⟨below_step h.below hb, fun x hx => It.ok_move (h.ok x hx) fun k hk => hb.block k (It.ok_lt (h.ok x hx) k hk), h.apart⟩
theorem MS.add {w W W' : World} {l : List It} (h : MS w W l) (hb : Below W.heap.size W W') (x : It) (hx : x.ok w.heap.size W') (hn : ∀ k, x.has k → W.heap.size ≤ k) : MS w W' (x :: l) := by
  refine ⟨below_step h.below hb, ?_, ?_⟩
  · intro y hy
    rcases List.mem_cons.1 hy with rfl | hy
    · exact hx
    · exact (h.step hb).ok y hy
  · refine List.pairwise_cons.2 ⟨fun y hy k hk hyk => ?_, h.apart⟩
    have h1 := hn k hk
    have h2 := It.ok_lt (h.ok y hy) k hyk
    omega
theorem MS.addBox {w W W' : World} {l : List It} (h : MS w W l) (hb : Below W.heap.size W W') {g : Nat} {t : TypeId} {cs : Array Value} (hx : W'.heap[g]? = some (.cells cs t (0, 0))) (hg : g = W.heap.size) : MS w W' (.box g t cs :: l) :=
  h.add hb (.box g t cs) ⟨hx, by rw [hg]; exact h.size⟩ (fun k hk => by
    have : g = k := hk
    omega)
theorem MS.addRow {w W W' : World} {l : List It} (h : MS w W l) (hb : Below W.heap.size W W') {e : TypeId} {v : Value} {cs : List Value} {n : Nat} (hx : W'.ownsRow W.heap.size e 1 v n cs) : MS w W' (.row e v cs :: l) :=
  h.add hb (.row e v cs) (by
    have hl : n = cs.length := by have := hx.1; omega
    subst hl
    exact own_weaken hx h.size) (fun k hk => own_base hx k hk)
theorem MS.addR {w W W' : World} {l : List It} (h : MS w W l) (hb : Below W.heap.size W W') {α : Type} {enc : α → Value} {h1 : ∀ x, (enc x).oneCell' = true} {e : Nat} {ok : Nat → Prop} {v : Value} {xs : List α} (hx : (Kd.scalar enc h1).R e W' W.heap.size ok v xs) : MS w W' (.row e v (encs enc xs) :: l) :=
  h.addRow hb (Kd.own_of_R hx)
theorem MS.tail {w W : World} {x : It} {l : List It} (h : MS w W (x :: l)) : MS w W l :=
  ⟨h.below, fun y hy => h.ok y (List.mem_cons_of_mem _ hy), (List.pairwise_cons.1 h.apart).2⟩
theorem MS.drop {w W : World} {l : List It} (h : MS w W l) (i : Nat) : MS w W (l.eraseIdx i) :=
  ⟨h.below, fun y hy => h.ok y (List.eraseIdx_subset hy), h.apart.sublist (List.eraseIdx_sublist _ _)⟩
theorem MS.at {w W : World} {l : List It} (h : MS w W l) (i : Nat) {x : It} (hi : l[i]? = some x) : x.ok w.heap.size W := h.ok x (List.mem_of_getElem? hi)
theorem MS.box {w W : World} {l : List It} (h : MS w W l) (i : Nat) {g : Nat} {t : TypeId} {cs : Array Value} (hi : l[i]? = some (.box g t cs)) : W.heap[g]? = some (.cells cs t (0, 0)) := (h.at i hi).1
theorem MS.boxGe {w W : World} {l : List It} (h : MS w W l) (i : Nat) {g : Nat} {t : TypeId} {cs : Array Value} (hi : l[i]? = some (.box g t cs)) : w.heap.size ≤ g := (h.at i hi).2
theorem MS.row {w W : World} {l : List It} (h : MS w W l) (i : Nat) {e : TypeId} {v : Value} {cs : List Value} (hi : l[i]? = some (.row e v cs)) : W.ownsRow w.heap.size e 1 v cs.length cs := h.at i hi
/-- A row, as the print's words tell it. -/
theorem MS.R {w W : World} {l : List It} (h : MS w W l) (i : Nat) {α : Type} {enc : α → Value} {h1 : ∀ x, (enc x).oneCell' = true} {e : TypeId} {v : Value} {xs : List α} (hi : l[i]? = some (.row e v (encs enc xs))) : (Kd.scalar enc h1).R e W w.heap.size (fun _ => True) v xs :=
  Kd.R_of_own (by have := h.row i hi; rw [encs_length] at this; exact this) (fun _ _ => trivial)
theorem MS.far {w W : World} {l : List It} (h : MS w W l) {i j : Nat} {x y : It} (hi : l[i]? = some x) (hj : l[j]? = some y) (hne : i ≠ j) : x.far y := by
  have hp := List.pairwise_iff_getElem.1 h.apart
  obtain ⟨hil, hx⟩ := List.getElem?_eq_some_iff.1 hi
  obtain ⟨hjl, hy⟩ := List.getElem?_eq_some_iff.1 hj
  rcases Nat.lt_or_gt_of_ne hne with hlt | hgt
  · have := hp i j hil hjl hlt
    rw [hx, hy] at this
    exact this
  · have := hp j i hjl hil hgt
    rw [hx, hy] at this
    exact It.far_symm this
/-- One item is another one now; nothing else was written. -/
theorem MS.upd {w W W' : World} {l : List It} (h : MS w W l) (i : Nat) {x x' : It} (hi : l[i]? = some x) (hb : Below w.heap.size w W') (hx : x'.ok w.heap.size W')
    (hblk : ∀ k, x'.has k → x.has k ∨ W.heap.size ≤ k) (hm : ∀ k, k < W.heap.size → ¬ x.has k → W'.heap[k]? = W.heap[k]?) : MS w W' (l.set i x') := by
  have hil := (List.getElem?_eq_some_iff.1 hi).1
  refine ⟨hb, ?_, ?_⟩
  · intro y hy
    obtain ⟨j, hj⟩ := List.mem_iff_getElem?.1 hy
    rw [List.getElem?_set] at hj
    by_cases hij : i = j
    · subst hij
      simp only [if_true, hil] at hj
      injection hj with hj
      subst hj
      exact hx
    · rw [if_neg hij] at hj
      exact It.ok_move (h.at j hj) fun k hk => hm k (It.ok_lt (h.at j hj) k hk) (fun hxk => h.far hi hj hij k hxk hk)
  · rw [List.pairwise_iff_getElem]
    intro a c ha hc hac
    rw [List.length_set] at ha hc
    have hp := List.pairwise_iff_getElem.1 h.apart a c ha hc hac
    rw [List.getElem_set, List.getElem_set]
    have ga : l[a]? = some l[a] := List.getElem?_eq_getElem ha
    have gc : l[c]? = some l[c] := List.getElem?_eq_getElem hc
    by_cases hia : i = a
    · rw [if_pos hia, if_neg (by omega)]
      subst hia
      rw [hi] at ga
      injection ga with ga
      intro k hk hck
      rcases hblk k hk with h1 | h1
      · rw [ga] at h1
        exact hp k h1 hck
      · have := It.ok_lt (h.at c gc) k hck
        omega
    · rw [if_neg hia]
      by_cases hic : i = c
      · rw [if_pos hic]
        subst hic
        rw [hi] at gc
        injection gc with gc
        intro k hak hk
        rcases hblk k hk with h1 | h1
        · rw [gc] at h1
          exact hp k hak h1
        · have := It.ok_lt (h.at a ga) k hak
          omega
      · rw [if_neg hic]
        exact hp
theorem MS.setBox {w W : World} {l : List It} (h : MS w W l) (i : Nat) {g : Nat} {t : TypeId} {cs : Array Value} (hi : l[i]? = some (.box g t cs)) (j : Nat) (u : Value) {cs' : Array Value} (he : cs.setIfInBounds j u = cs') : MS w (W.setCell ⟨g, j, none⟩ u) (l.set i (.box g t cs')) := by
  subst he
  have hbx := h.box i hi
  refine h.upd i hi (h.below.setCell (h.boxGe i hi) u) ⟨blk_set hbx j u, h.boxGe i hi⟩ (fun k hk => .inl hk) (fun k _ hne => ?_)
  exact Below.heap_setCell W ⟨g, j, none⟩ u k (fun e => hne (by rw [e]; rfl))
theorem MS.setRow {w W : World} {l : List It} (h : MS w W l) (i : Nat) {g : Nat} {t : TypeId} {cs : Array Value} (hi : l[i]? = some (.box g t cs)) (cs' : Array Value) : MS w (World.setRow W g cs') (l.set i (.box g t cs')) := by
  have hbx := h.box i hi
  refine h.upd i hi ⟨?_, ?_, ?_, ?_, ?_⟩ ⟨setRow_heap W g cs cs' t _ hbx, h.boxGe i hi⟩ (fun k hk => .inl hk) (fun k _ hne => ?_)
  · exact h.below.os
  · exact h.below.tape
  · exact h.below.output
  · rw [size_setRow]; exact h.size
  · intro k hk
    rw [setRow_other W g k cs' (by have := h.boxGe i hi; omega)]
    exact h.below.block k hk
  · exact setRow_other W g k cs' (fun e => hne (by rw [e]; rfl))
/-- A row was appended to. -/
theorem MS.grow {w W W' : World} {l : List It} (h : MS w W l) (i : Nat) {e : TypeId} {v : Value} {cs : List Value} (hi : l[i]? = some (.row e v cs)) {v' : Value} {α : Type} {enc : α → Value} {h1 : ∀ x, (enc x).oneCell' = true} {xs : List α} {ok : Nat → Prop}
    (ho : (Kd.scalar enc h1).R e W' w.heap.size ok v' xs) (hb : Below w.heap.size w W') (hg : W.grownBy W' v.ownBlock) (hat : v'.ownBlock = v.ownBlock ∨ ∃ b, v'.ownBlock = some b ∧ W.heap.size ≤ b) : MS w W' (l.set i (.row e v' (encs enc xs))) := by
  refine h.upd i hi hb (by have := Kd.own_of_R ho; show World.ownsRow _ _ _ _ _ _ _; rw [encs_length]; exact this) (fun k hk => ?_) (fun k hk hne => ?_)
  · rcases hat with h2 | ⟨b, h2, h3⟩
    · exact .inl (by show v.ownBlock = some k; rw [← h2]; exact hk)
    · have : some b = some k := h2.symm.trans hk
      injection this with this
      exact .inr (by omega)
  · exact hg.block k hk (fun e2 => hne e2.symm)
/-- An element of a row was written. -/
theorem MS.put {w W : World} {l : List It} (h : MS w W l) (i : Nat) {e : TypeId} {g n cap : Nat} {α : Type} {enc : α → Value} {xs : List α} (hi : l[i]? = some (.row e (.slice (some ⟨g, 0, none⟩) n cap) (encs enc xs))) (h1 : ∀ x, (enc x).oneCell' = true) (j : Int) (x : α) : MS w (W.setCell ⟨g, j.toNat, none⟩ (enc x)) (l.set i (.row e (.slice (some ⟨g, 0, none⟩) n cap) (encs enc (xs.set j.toNat x)))) := by
  have hr := h.R (h1 := h1) i hi
  have hge : w.heap.size ≤ g := own_base (h.row i hi) g rfl
  refine h.upd i hi (h.below.setCell hge _) ?_ (fun k hk => .inl hk) (fun k _ hne => ?_)
  · have := Kd.own_of_R (Kd.R_putn hr j x)
    show World.ownsRow _ _ _ _ _ _ _
    rw [encs_length]
    exact this
  · exact Below.heap_setCell W ⟨g, j.toNat, none⟩ (enc x) k (fun e2 => hne (by rw [e2]; rfl))

theorem MS.perm {w W : World} {l l' : List It} (h : MS w W l) (hp : l.Perm l') : MS w W l' :=
  ⟨h.below, fun x hx => h.ok x (hp.mem_iff.2 hx), h.apart.perm hp It.far_symm⟩
theorem perm_front {α : Type} : ∀ (l : List α) (i : Nat) (x : α), l[i]? = some x → l.Perm (x :: l.eraseIdx i)
  | [], _, _, h => by simp at h
  | a :: t, 0, x, h => by
    simp only [List.getElem?_cons_zero, Option.some.injEq] at h
    subst h
    exact List.Perm.refl _
  | a :: t, i + 1, x, h => by
    have := perm_front t i x (by simpa using h)
    exact (this.cons a).trans (List.Perm.swap x a _)
theorem MS.front {w W : World} {l : List It} (h : MS w W l) (i : Nat) {x : It} (hi : l[i]? = some x) : MS w W (x :: l.eraseIdx i) := h.perm (perm_front l i x hi)
/-- A row was written over by a callee, in place. -/
theorem MS.mark {w W W' : World} {l : List It} (h : MS w W l) (i : Nat) {e : TypeId} {v : Value} {α : Type} {enc : α → Value} {h1 : ∀ x, (enc x).oneCell' = true} {xs ys : List α} {ok : Nat → Prop} (hi : l[i]? = some (.row e v (encs enc xs)))
    (hR : (Kd.scalar enc h1).R e W' w.heap.size ok v ys) (hB : Below w.heap.size w W') (hK : Kept W W' (fun k => v.ownBlock = some k)) : MS w W' (l.set i (.row e v (encs enc ys))) :=
  h.upd i hi hB (by have := Kd.own_of_R hR; show World.ownsRow _ _ _ _ _ _ _; rw [encs_length]; exact this) (fun k hk => .inl hk) (fun k hk hne => hK.2 k hk hne)
theorem MS.Rv {w W : World} {l : List It} (h : MS w W l) (i : Nat) {α : Type} {enc : α → Value} {h1 : ∀ x, (enc x).oneCell' = true} {e : TypeId} {v : Value} {xs : List α} (hi : l[i]? = some (.row e v (encs enc xs))) : (Kd.scalar enc h1).R e W w.heap.size (fun k => v.ownBlock = some k) v xs :=
  Kd.R_of_own (by have := h.row i hi; rw [encs_length] at this; exact this) (fun _ hk => hk)
theorem slice_len {A A' : Option Addr} {n n' c c' : Nat} (h : Value.slice A n c = .slice A' n' c') : n = n' := by injection h
/-! #### a row of rows -/
theorem MS.addLit {w W : World} {l : List It} (h : MS w W l) (cs : List Value) (e : TypeId) (hn : cs.length ≤ 1000) {gb : Nat} (hg : gb = W.heap.size) {W' : World} (hW : W' = W.alloc (.cells cs.toArray e)) : MS w W' (.row e (.slice (some ⟨gb, 0, none⟩) cs.length cs.length) cs :: l) := by
  subst hg
  subst hW
  refine h.addRow (n := cs.length) (below_alloc (Below.refl _ _) _) ⟨by omega, .inr ⟨W.heap.size, cs.length, cs.toArray, rfl, Nat.le_refl _, blk_new W _, Nat.le_refl _, by unfold maxLen; omega, by simp, by simp⟩⟩
theorem MS.rows {w W : World} {l : List It} (h : MS w W l) (i : Nat) {e : TypeId} {A : Option Addr} {n c : Nat} {cs : List Value} {α : Type} {d : Kd α} {xs : List α} (hi : l[i]? = some (.row e (.slice A n c) cs)) (hsz : d.sz = 1) (hr : Reps (d.K W) 1 xs cs) (hx : xs.length = n) : d.C W A xs.length xs ∧ xs.length ≤ c := by
  have ho : W.ownsRow w.heap.size e 1 (.slice A n c) cs.length cs := h.row i hi
  have hl : xs.length = cs.length := by have := hr.1; omega
  rw [← hl, ← hsz] at ho
  rw [← hsz] at hr
  obtain ⟨A', c', he, hle, hC⟩ := OwnRow.reads (R := d.K W) ⟨cs, ho, hr⟩
  injection he with h1 h2 h3
  subst h1
  subst h3
  exact ⟨hC, hle⟩
theorem row_elem {w : World} {A : Option Addr} {e n : Nat} {xs : List (List Int)} (h : (Kd.slice e (Kd.int .i64)).C w A n xs) (i : Int) (h0 : 0 ≤ i) (h1 : i < n) :
    ∃ ad Ae ce, A = some ad ∧ w.cell? (ad.add i.toNat) = some (.slice Ae (rdOf [] xs i).length ce) ∧ (rdOf [] xs i).length ≤ ce ∧ Kd.C (Kd.int .i64) w Ae (rdOf [] xs i).length (rdOf [] xs i) := by
  obtain ⟨ad, cs, hA, hl, ⟨Ae, ce, hcs, hle, hC⟩, hcell⟩ := Kd.C_get h [] i h0 h1
  subst hcs
  refine ⟨ad, Ae, ce, hA, ?_, hle, hC⟩
  have hx := hcell 0 _ rfl
  have e1 : i.toNat * (Kd.slice e (Kd.int .i64)).sz + 0 = i.toNat := by show i.toNat * 1 + 0 = i.toNat; omega
  rw [e1] at hx
  exact hx
/-! #### what a call has made and nobody writes any more: held whole, as at one world -/
/-- W has the blocks of 'own' as W1 has them. -/
def Agree (own : Nat → Prop) (W1 W : World) : Prop := ∀ k, own k → W.heap[k]? = W1.heap[k]?
theorem MS.any {w W : World} {l : List It} (h : MS w W l) (i : Nat) {own : Nat → Prop} {P : World → Prop} (hi : l[i]? = some (.any own P)) : P W := (h.at i hi).2 W fun _ _ => rfl
theorem MS.addRo {w W W' : World} {l : List It} (h : MS w W l) (hb : Below W.heap.size W W') {α : Type} {d : Kd α} {A : Option Addr} {n : Nat} {xs : List α} (hF : Kd.F d W' (fun k => W.heap.size ≤ k) A n xs) :
    ∃ own : Nat → Prop, Kd.F d W' own A n xs ∧ MS w W' (.any own (Agree own W') :: l) := by
  refine ⟨fun k => W.heap.size ≤ k ∧ k < W'.heap.size, Kd.F_bound hF, h.add hb _ ⟨fun k hk => ⟨Nat.le_trans h.size hk.1, hk.2⟩, fun W2 h2 => h2⟩ fun k hk => hk.1⟩
/-- A slice that is only read, of what is new at w. -/
def RoS {α : Type} (d : Kd α) (w w' : World) (v : Value) (xs : List α) : Prop := ∃ A c, v = .slice A xs.length c ∧ xs.length ≤ c ∧ Kd.F d w' (fun k => w.heap.size ≤ k) A xs.length xs
/-- .. nil where it is empty. -/
def RoN {α : Type} (d : Kd α) (w w' : World) (v : Value) (xs : List α) : Prop := ∃ A c, v = .slice A xs.length c ∧ xs.length ≤ c ∧ A.isNone = decide (xs.length = 0) ∧ Kd.F d w' (fun k => w.heap.size ≤ k) A xs.length xs
theorem RoS.ofN {α : Type} {d : Kd α} {e : Nat} {w w' : World} {v : Value} {xs : List α} (h : Kd.N d e w' w.heap.size (fun k => w.heap.size ≤ k) v xs) : RoS d w w' v xs := by
  obtain ⟨A, c, rfl, hl, _⟩ := Kd.N_reads h
  exact ⟨A, c, rfl, hl, Kd.N_F h⟩
theorem RoS.ofR {α : Type} {d : Kd α} {e : Nat} {w w' : World} {v : Value} {xs : List α} {ok : Nat → Prop} (h : d.R e w' w.heap.size ok v xs) : RoS d w w' v xs := by
  obtain ⟨A, c, rfl, hl, _⟩ := Kd.R_reads h
  exact ⟨A, c, rfl, hl, Kd.R_F (Kd.R_mono (Kd.R_bound h) fun k hk => hk.2.1)⟩
theorem RoS.nil {α : Type} {d : Kd α} {w w' : World} : RoS d w w' (.slice none 0 0) ([] : List α) := ⟨none, 0, rfl, Nat.le_refl _, Kd.F_nil d w' _⟩
theorem RoN.nil {α : Type} {d : Kd α} {w w' : World} : RoN d w w' (.slice none 0 0) ([] : List α) := ⟨none, 0, rfl, Nat.le_refl _, rfl, Kd.F_nil d w' _⟩
theorem RoN.of {α : Type} {d : Kd α} {w w' : World} {A : Option Addr} {c : Nat} {xs : List α} (hl : xs.length ≤ c) (hn : ¬ xs.length = 0) (hF : Kd.F d w' (fun k => w.heap.size ≤ k) A xs.length xs) : RoN d w w' (.slice A xs.length c) xs := by
  obtain ⟨ad, rfl, _⟩ := (Kd.F_now hF).2.2 (by omega)
  exact ⟨_, c, rfl, hl, by simp [hn], hF⟩
theorem MS.heldC {w W W1 : World} {l : List It} (h : MS w W l) (i : Nat) {own : Nat → Prop} (hi : l[i]? = some (.any own (Agree own W1))) {α : Type} {d : Kd α} {A : Option Addr} {n : Nat} {xs : List α} (hF : Kd.F d W1 own A n xs) : d.C W A n xs :=
  hF W fun k hk _ => h.any i hi k hk
theorem MS.retF {w W W1 : World} {l : List It} (h : MS w W l) (i : Nat) {own : Nat → Prop} (hi : l[i]? = some (.any own (Agree own W1))) {α : Type} {d : Kd α} {A : Option Addr} {n : Nat} {xs : List α} (hF : Kd.F d W1 own A n xs) : Kd.F d W (fun k => w.heap.size ≤ k) A n xs :=
  Kd.F_mono (Kd.F_step hF fun k hk _ => h.any i hi k hk) fun k hk => ((h.at i hi).1 k hk).1
/-- An element of a row of rows that is held: its cell now, and itself, held as before. -/
theorem held_elem {W W1 : World} {own : Nat → Prop} {α : Type} {d2 : Kd α} {e2 : Nat} {A : Option Addr} {n : Nat} {xs : List (List α)} (hF : Kd.F (Kd.slice e2 d2) W1 own A n xs) (hA : Agree own W1 W) (i : Int) (h0 : 0 ≤ i) (h1 : i < (n : Int)) :
    ∃ ad Ae ce, A = some ad ∧ W.cell? (ad.add i.toNat) = some (.slice Ae (rdOf [] xs i).length ce) ∧ (rdOf [] xs i).length ≤ ce ∧ Kd.F d2 W1 own Ae (rdOf [] xs i).length (rdOf [] xs i) ∧ W1.cell? (ad.add i.toNat) = some (.slice Ae (rdOf [] xs i).length ce) := by
  obtain ⟨ad, cs, rfl, hl, hK, hc, hok⟩ := Kd.F_get hF [] i h0 h1
  obtain ⟨Ae, ce, rfl, hle, hFe⟩ := Kd.FK_slice_open hK
  have h2 := hc 0 _ rfl
  have e1 : i.toNat * (Kd.slice e2 d2).sz + 0 = i.toNat := by show i.toNat * 1 + 0 = i.toNat; omega
  rw [e1] at h2
  refine ⟨ad, Ae, ce, rfl, ?_, hle, hFe, h2⟩
  refine (World.cell?_of_block (a := ad.add i.toNat) ?_).trans h2
  rw [add_block]
  exact hA ad.block (hok (by show 0 < 1; omega))
theorem held_cell {W W2 W1 : World} {own : Nat → Prop} {α : Type} {d2 : Kd α} {e2 : Nat} {ad : Addr} {n : Nat} {xs : List (List α)} {v : Value} (hF : Kd.F (Kd.slice e2 d2) W1 own (some ad) n xs) (hA : Agree own W1 W) (hA2 : Agree own W1 W2) (i : Int) (h0 : 0 ≤ i) (h1 : i < (n : Int)) (h : W.cell? (ad.add i.toNat) = some v) : W2.cell? (ad.add i.toNat) = some v := by
  obtain ⟨ad', cs, he, hl, hK, hc, hok⟩ := Kd.F_get hF [] i h0 h1
  injection he with he
  subst he
  have hb := hok (by show 0 < 1; omega)
  refine (World.cell?_of_block (a := ad.add i.toNat) ?_).trans h
  rw [add_block]
  exact (hA2 _ hb).trans (hA _ hb).symm
theorem same_slice {W : World} {a : Addr} {A A' : Option Addr} {n n' c c' : Nat} (h : W.cell? a = some (.slice A n c)) (h' : W.cell? a = some (.slice A' n' c')) : A = A' ∧ c = c' := by
  have := h.symm.trans h'
  injection this with this
  injection this with h1 h2 h3
  exact ⟨h1, h3⟩
/-- A pointer to an array of rows, of what is new at w. -/
def PtrRows (e n : Nat) (w w' : World) (v : Value) (xs : List (List Int)) : Prop :=
  xs.length = n ∧ ∃ g, v = .pointer (some ⟨g, 0, none⟩) ∧ Kd.F (Kd.slice e (Kd.int .i64)) w' (fun k => w.heap.size ≤ k) (some ⟨g, 0, none⟩) n xs
/-! #### calls that only draw -/
theorem _root_.Go.Proofs.YtlbhfbanbdahdaaW.PrintWords.Drawn0.trans {a b c : World} (h : Drawn0 a b) (k : Drawn0 b c) : Drawn0 a c := by
  obtain ⟨n, rfl⟩ := h
  obtain ⟨m, rfl⟩ := k
  exact ⟨⟨n + m, World.drewN_drewN ..⟩⟩
theorem drawn_calls {P : Program} {f : FuncId} {args : Array Value} {w : World} {v : Value} (h : Calls P f args w fun e w' => e = .returned v ∧ Drawn0 w w') : Calls P f args w fun e w' => e = .returned v ∧ Below w.heap.size w w' :=
  h.mono fun _ _ ⟨he, hd⟩ => ⟨he, hd.below⟩
theorem calls_quiet {P : Program} {f : FuncId} {args : Array Value} {w : World} {n : Nat} {v : Value} (h : Calls P f args (w.drewN n) fun e w' => e = .returned v ∧ Drawn0 (w.drewN n) w') : Calls P f args (w.drewN n) fun e w'' => e = .returned v ∧ ∃ m, w'' = w.drewN m :=
  h.mono fun _ _ ⟨he, hd⟩ => ⟨he, by obtain ⟨m, hm⟩ := hd; exact ⟨n + m, by rw [hm, World.drewN_drewN]⟩⟩

/-! #### arrays of bools and of ints, as values and in a block -/
def bcs (xs : List Bool) : Array Value := (xs.map Value.bool).toArray
def ics (xs : List Int) : Array Value := (xs.map (Value.int .i64)).toArray
theorem bcs_size (xs : List Bool) : (bcs xs).size = xs.length := by simp [bcs]
theorem ics_size (xs : List Int) : (ics xs).size = xs.length := by simp [ics]
theorem bcs_one (xs : List Bool) : (bcs xs).all (·.oneCell') = true := by simp [bcs, Value.oneCell']
theorem ics_one (xs : List Int) : (ics xs).all (·.oneCell') = true := by simp [ics, Value.oneCell']
theorem bcs_get (xs : List Bool) (i : Nat) (h : i < xs.length) : (bcs xs)[i]? = some (.bool (xs.getD i false)) := by
  simp [bcs, h]
theorem ics_get (xs : List Int) (i : Nat) (h : i < xs.length) : (ics xs)[i]? = some (.int .i64 (xs.getD i 0)) := by
  simp [ics, h]
theorem bcs_set (xs : List Bool) (i : Nat) (b : Bool) : (bcs xs).setIfInBounds i (.bool b) = bcs (xs.set i b) := by
  simp [bcs, List.map_set]
theorem ics_set (xs : List Int) (i : Nat) (b : Int) : (ics xs).setIfInBounds i (.int .i64 b) = ics (xs.set i b) := by
  simp [ics, List.map_set]
/-- Element i of an array in a block, as the walk asks for it. -/
theorem bcell {W : World} {g : Nat} {t : TypeId} {xs : List Bool} (h : W.heap[g]? = some (.cells (bcs xs) t (0, 0))) (i : Int) (h0 : 0 ≤ i) (h1 : i < (xs.length : Int)) : W.cell? ⟨g, i.toNat, none⟩ = some (.bool (rdOf false xs i)) :=
  (blk_cell h i.toNat).trans (bcs_get xs i.toNat (by omega))
theorem icell {W : World} {g : Nat} {t : TypeId} {xs : List Int} (h : W.heap[g]? = some (.cells (ics xs) t (0, 0))) (i : Int) (h0 : 0 ≤ i) (h1 : i < (xs.length : Int)) : W.cell? ⟨g, i.toNat, none⟩ = some (.int .i64 (rd xs i)) :=
  (blk_cell h i.toNat).trans (ics_get xs i.toNat (by omega))

/-! #### an array value: an element, '==' -/
section
variable {P : Program} {ops : Array Oper} {rest : List Oper} {oi : Oper} {a : Act} {w : World} {Q : Exit → Act → World → Prop}
theorem build_zero (hgd : oi.guard = none) {N : Tmp} (_hd : oi.dst = some N) {cs : Array Value}
    (hrun : (execOp a.eval oi).run P w = .ok (.value (.agg cs)) w) (h : wpList P ops Q rest (a.put oi.dst (.agg cs)) w) : wpList P ops Q (oi :: rest) a w :=
  Kd.event_run hgd hrun h
theorem run_part_cell {e : TypeId} (he : P.plainKey e = true) {xs : Array Value} {off : Nat} {v : Value} (hx : xs[off]? = some v) (W : World) : (part e xs off).run P W = .ok v W := run_part_plain W he hx
theorem idxB (hgd : oi.guard = none) {t e : TypeId} {n : Nat} {x y : Operand} {xs : List Bool} {i : Int} (ho : oi.op = .index t x y) (hx : a.eval x = .agg (bcs xs)) (hy : a.eval y = .int .i64 i)
    (hu : P.underlying t = some (.array n e)) (he : P.plainKey e = true) (hi0 : (P.info? e).map (·.size) = some 1) (hl : xs.length = n) (h0 : 0 ≤ i) (h1 : i < (n : Int))
    (h : wpList P ops Q rest (a.put oi.dst (.bool (rdOf false xs i))) w) : wpList P ops Q (oi :: rest) a w := by
  obtain ⟨ty, hi, hs⟩ := Option.map_eq_some_iff.1 hi0
  refine Kd.event_run hgd ?_ h
  have hg : (bcs xs)[i.toNat * 1]? = some (.bool (rdOf false xs i)) := by rw [Nat.mul_one]; exact bcs_get xs i.toNat (by omega)
  unfold execOp
  simp only [ho, hx, hy]
  simp only [Instr.index, asIntOf, Sem.run_bind, Sem.run_pure, Result.andThen_ok, run_underlying hu]
  rw [if_pos ⟨h0, h1⟩]
  simp only [sizeOf, typeInfo, run_program, hi, hs, Sem.run_bind, Sem.run_pure, Result.andThen_ok, run_part_cell he hg]
theorem idxI (hgd : oi.guard = none) {t e : TypeId} {n : Nat} {x y : Operand} {xs : List Int} {i : Int} (ho : oi.op = .index t x y) (hx : a.eval x = .agg (ics xs)) (hy : a.eval y = .int .i64 i)
    (hu : P.underlying t = some (.array n e)) (he : P.plainKey e = true) (hi0 : (P.info? e).map (·.size) = some 1) (hl : xs.length = n) (h0 : 0 ≤ i) (h1 : i < (n : Int))
    (h : wpList P ops Q rest (a.put oi.dst (.int .i64 (rd xs i))) w) : wpList P ops Q (oi :: rest) a w := by
  obtain ⟨ty, hi, hs⟩ := Option.map_eq_some_iff.1 hi0
  refine Kd.event_run hgd ?_ h
  have hg : (ics xs)[i.toNat * 1]? = some (.int .i64 (rd xs i)) := by rw [Nat.mul_one]; exact ics_get xs i.toNat (by omega)
  unfold execOp
  simp only [ho, hx, hy]
  simp only [Instr.index, asIntOf, Sem.run_bind, Sem.run_pure, Result.andThen_ok, run_underlying hu]
  rw [if_pos ⟨h0, h1⟩]
  simp only [sizeOf, typeInfo, run_program, hi, hs, Sem.run_bind, Sem.run_pure, Result.andThen_ok, run_part_cell he hg]
theorem eqItemsB (W : World) (d : Nat) {e : TypeId} (he : P.plainKey e = true) (hb : P.underlying e = some .bool) (xs ys : List Bool) : ∀ (is : List Nat), (∀ j ∈ is, j < xs.length ∧ j < ys.length) →
    (Op.eqItems (d + 1) e 1 (bcs xs) (bcs ys) is).run P W = .ok (is.all fun j => xs.getD j false == ys.getD j false) W
  | [], _ => by simp [Op.eqItems]
  | j :: is, h => by
    have hj := h j (by simp)
    have ih := eqItemsB W d he hb xs ys is (fun k hk => h k (by simp [hk]))
    have g1 : (bcs xs)[j * 1]? = some (.bool (xs.getD j false)) := by rw [Nat.mul_one]; exact bcs_get xs j hj.1
    have g2 : (bcs ys)[j * 1]? = some (.bool (ys.getD j false)) := by rw [Nat.mul_one]; exact bcs_get ys j hj.2
    have he2 : (Op.equalIn (d + 1) e (.bool (xs.getD j false)) (.bool (ys.getD j false))).run P W = .ok (xs.getD j false == ys.getD j false) W := by
      simp [Op.equalIn, run_underlying hb]
    simp only [Op.eqItems, Sem.run_bind, run_part_cell he g1, run_part_cell he g2, Result.andThen_ok, he2, List.all_cons]
    cases hq : (xs.getD j false == ys.getD j false) <;> simp [ih]
theorem eqItemsI (W : World) (d : Nat) {e : TypeId} (he : P.plainKey e = true) (hb : P.underlying e = some (.int .i64)) (xs ys : List Int) : ∀ (is : List Nat), (∀ j ∈ is, j < xs.length ∧ j < ys.length) →
    (Op.eqItems (d + 1) e 1 (ics xs) (ics ys) is).run P W = .ok (is.all fun j => xs.getD j 0 == ys.getD j 0) W
  | [], _ => by simp [Op.eqItems]
  | j :: is, h => by
    have hj := h j (by simp)
    have ih := eqItemsI W d he hb xs ys is (fun k hk => h k (by simp [hk]))
    have g1 : (ics xs)[j * 1]? = some (.int .i64 (xs.getD j 0)) := by rw [Nat.mul_one]; exact ics_get xs j hj.1
    have g2 : (ics ys)[j * 1]? = some (.int .i64 (ys.getD j 0)) := by rw [Nat.mul_one]; exact ics_get ys j hj.2
    have he2 : (Op.equalIn (d + 1) e (.int .i64 (xs.getD j 0)) (.int .i64 (ys.getD j 0))).run P W = .ok (xs.getD j 0 == ys.getD j 0) W := by
      simp [Op.equalIn, run_underlying hb]
    simp only [Op.eqItems, Sem.run_bind, run_part_cell he g1, run_part_cell he g2, Result.andThen_ok, he2, List.all_cons]
    cases hq : (xs.getD j 0 == ys.getD j 0) <;> simp [ih]
theorem all_eq {α : Type} [BEq α] [LawfulBEq α] (d : α) (xs ys : List α) (hl : xs.length = ys.length) : ((List.range xs.length).all fun j => xs.getD j d == ys.getD j d) = (xs == ys) := by
  rw [Bool.eq_iff_iff]
  constructor
  · intro h
    rw [beq_iff_eq]
    apply List.ext_getElem hl
    intro j h1 h2
    have := (List.all_eq_true.1 h) j (List.mem_range.2 h1)
    simpa [h1, h2] using this
  · intro h
    rw [beq_iff_eq] at h
    subst h
    simp
theorem eqlB (hgd : oi.guard = none) {t e rt : TypeId} {n : Nat} {x y : Operand} {xs ys : List Bool} (ho : oi.op = .binOp .eql t x y rt) (hx : a.eval x = .agg (bcs xs)) (hy : a.eval y = .agg (bcs ys))
    (hm : P.eqGuardType P.depth t = false) (hu : P.underlying t = some (.array n e)) (he : P.plainKey e = true) (hb : P.underlying e = some .bool) (hi0 : (P.info? e).map (·.size) = some 1) (hs : P.cellsOf e = 1) (hl : xs.length = n) (hl2 : ys.length = n)
    (h : wpList P ops Q rest (a.put oi.dst (.bool (xs == ys))) w) : wpList P ops Q (oi :: rest) a w := by
  obtain ⟨ty, hi, _⟩ := Option.map_eq_some_iff.1 hi0
  refine Kd.event_run hgd ?_ h
  unfold execOp
  simp only [ho, hx, hy, Sem.run_bind, run_eqGuard_agg w _ _ _ _ _ _ hm, Result.andThen_ok, run_eql_struct]
  rw [show (10000 : Nat) = 9999 + 1 from rfl, run_equalIn_array w 9999 _ _ hu hi, hs, eqItemsB w 9998 he hb xs ys _ (fun j hj => by have := List.mem_range.1 hj; omega)]
  subst hl
  rw [all_eq false xs ys hl2.symm]
  simp
theorem eqlI (hgd : oi.guard = none) {t e rt : TypeId} {n : Nat} {x y : Operand} {xs ys : List Int} (ho : oi.op = .binOp .eql t x y rt) (hx : a.eval x = .agg (ics xs)) (hy : a.eval y = .agg (ics ys))
    (hm : P.eqGuardType P.depth t = false) (hu : P.underlying t = some (.array n e)) (he : P.plainKey e = true) (hb : P.underlying e = some (.int .i64)) (hi0 : (P.info? e).map (·.size) = some 1) (hs : P.cellsOf e = 1) (hl : xs.length = n) (hl2 : ys.length = n)
    (h : wpList P ops Q rest (a.put oi.dst (.bool (xs == ys))) w) : wpList P ops Q (oi :: rest) a w := by
  obtain ⟨ty, hi, _⟩ := Option.map_eq_some_iff.1 hi0
  refine Kd.event_run hgd ?_ h
  unfold execOp
  simp only [ho, hx, hy, Sem.run_bind, run_eqGuard_agg w _ _ _ _ _ _ hm, Result.andThen_ok, run_eql_struct]
  rw [show (10000 : Nat) = 9999 + 1 from rfl, run_equalIn_array w 9999 _ _ hu hi, hs, eqItemsI w 9998 he hb xs ys _ (fun j hj => by have := List.mem_range.1 hj; omega)]
  subst hl
  rw [all_eq (0 : Int) xs ys hl2.symm]
  simp
end

/-! #### an operation under a guard that holds, as one without -/
theorem unguard {P : Program} {ops : Array Oper} {rest : List Oper} {o : Oper} {a : Act} {w : World} {Q : Exit → Act → World → Prop} (hw : Region.wanted o (yielded ops a.tmps) = true)
    (h : wpList P ops Q ({ o with guard := none } :: rest) a w) : wpList P ops Q (o :: rest) a w := by
  unfold wpList at h ⊢
  rw [if_pos hw]
  rw [if_pos (by rfl)] at h
  cases o
  exact h

/-! #### a block whose cells are a few values and then an array; a pointer that is handed back -/
theorem fcellB {W : World} {g : Nat} {t : TypeId} {pre : Array Value} {xs : List Bool} (h : W.heap[g]? = some (.cells (pre ++ bcs xs) t (0, 0))) (m : Nat) (hm : pre.size = m) (i : Int) (h0 : 0 ≤ i) (h1 : i < (xs.length : Int)) : W.cell? ⟨g, m + i.toNat, none⟩ = some (.bool (rdOf false xs i)) := by
  refine (blk_cell h _).trans ?_
  rw [Array.getElem?_append_right (by omega)]
  have e : m + i.toNat - pre.size = i.toNat := by omega
  rw [e]
  exact bcs_get xs i.toNat (by omega)
theorem fcell0 {W : World} {g : Nat} {t : TypeId} {v : Value} {cs : Array Value} (h : W.heap[g]? = some (.cells (#[v] ++ cs) t (0, 0))) : W.cell? ⟨g, 0, none⟩ = some v := by
  refine (blk_cell h 0).trans ?_
  rw [Array.getElem?_append_left (by simp)]
  rfl
/-- v is a new block's address, or nil. -/
def PtrTo (w w' : World) (t : TypeId) (nn : Bool) (cs : Array Value) (v : Value) : Prop :=
  if nn = true then ∃ gb, v = .pointer (some ⟨gb, 0, none⟩) ∧ w'.heap[gb]? = some (.cells cs t (0, 0)) ∧ w.heap.size ≤ gb else v = .pointer none
theorem PtrTo.yes {w w' : World} {t : TypeId} {cs : Array Value} {v : Value} (h : PtrTo w w' t true cs v) : ∃ gb, v = .pointer (some ⟨gb, 0, none⟩) ∧ w'.heap[gb]? = some (.cells cs t (0, 0)) ∧ w.heap.size ≤ gb := by
  unfold PtrTo at h
  rwa [if_pos rfl] at h
theorem PtrTo.no {w w' : World} {t : TypeId} {cs : Array Value} {v : Value} (h : PtrTo w w' t false cs v) : v = .pointer none := by
  unfold PtrTo at h
  rwa [if_neg Bool.false_ne_true] at h
theorem PtrTo.mk {w w' : World} {t : TypeId} {cs : Array Value} {gb : Nat} (h : w'.heap[gb]? = some (.cells cs t (0, 0))) (hg : w.heap.size ≤ gb) : PtrTo w w' t true cs (.pointer (some ⟨gb, 0, none⟩)) := by
  unfold PtrTo
  rw [if_pos rfl]
  exact ⟨gb, rfl, h, hg⟩
theorem PtrTo.nil {w w' : World} {t : TypeId} {cs : Array Value} : PtrTo w w' t false cs (.pointer none) := by
  unfold PtrTo
  rw [if_neg Bool.false_ne_true]
theorem MS.addPtr {w W W' : World} {l : List It} (h : MS w W l) (hb : Below W.heap.size W W') {g : Nat} {t : TypeId} {cs : Array Value} (hx : W'.heap[g]? = some (.cells cs t (0, 0))) (hg : W.heap.size ≤ g) : MS w W' (.box g t cs :: l) :=
  h.add hb (.box g t cs) ⟨hx, by have := h.size; omega⟩ (fun k hk => by
    have : g = k := hk
    omega)
theorem fold_put : ∀ (l : List Value) (k off : Nat) (cs : List Value), off + k + l.length ≤ cs.length → (l.zipIdx k).foldl (fun cs (x : Value × Nat) => cs.set (off + x.2) x.1) cs = cs.take (off + k) ++ l ++ cs.drop (off + k + l.length)
  | [], k, off, cs, _ => by simp
  | v :: l, k, off, cs, h => by
    rw [List.zipIdx_cons, List.foldl_cons, fold_put l (k + 1) off _ (by simp at h ⊢; omega)]
    simp only [List.length_cons] at h
    have e1 : off + (k + 1) = (off + k) + 1 := by omega
    rw [e1, List.take_add_one, List.take_set_of_le (Nat.le_refl _)]
    have e2 : off + k + (v :: l).length = off + k + 1 + l.length := by simp; omega
    rw [e2, List.drop_set_of_lt (by omega)]
    have e3 : (cs.set (off + k) v)[off + k]? = some v := by rw [List.getElem?_set]; simp; omega
    rw [e3]
    simp
theorem fold_put_arr (l : List Value) (off : Nat) (cs : List Value) (h : off + l.length ≤ cs.length) : (l.toArray.zipIdx.foldl (fun (cs : Array Value) (x : Value × Nat) => cs.setIfInBounds (off + x.2) x.1) cs.toArray) = (cs.take off ++ l ++ cs.drop (off + l.length)).toArray := by
  have hf : ∀ (m : List (Value × Nat)) (c : List Value), m.foldl (fun (cs : Array Value) (x : Value × Nat) => cs.setIfInBounds (off + x.2) x.1) c.toArray = (m.foldl (fun cs (x : Value × Nat) => cs.set (off + x.2) x.1) c).toArray := by
    intro m
    induction m with
    | nil => intro c; rfl
    | cons x m ih => intro c; rw [List.foldl_cons, List.foldl_cons, List.setIfInBounds_toArray, ih]
  rw [← Array.foldl_toList, Array.toList_zipIdx, hf, fold_put l 0 off cs (by omega)]
  simp
theorem fill_two (place : Nat → Option (Nat × Nat)) (z : List Value) (v : Value) (cs : List Value) (m : Nat) (h0 : place 0 = some (0, 1)) (h1 : place 1 = some (1, m)) (hv : v.cells = #[v]) (hc : cs.length = m) (hz : z.length = m + 1) :
    Instr.fill place z.toArray [(0, v), (1, .agg cs.toArray)] = some (#[v] ++ cs.toArray) := by
  have ec : (Value.agg cs.toArray).cells = cs.toArray := rfl
  have e1 : (#[v].zipIdx.foldl (fun (cs : Array Value) (x : Value × Nat) => cs.setIfInBounds (0 + x.2) x.1) z.toArray) = (z.take 0 ++ [v] ++ z.drop (0 + 1)).toArray := fold_put_arr [v] 0 z (by simp; omega)
  simp only [List.take_zero, List.nil_append, Nat.zero_add] at e1
  have e2 := fold_put_arr cs 1 ([v] ++ z.drop 1) (by simp; omega)
  have e3 : ([v] ++ z.drop 1).take 1 = [v] := by simp
  have e4 : ([v] ++ z.drop 1).drop (1 + cs.length) = [] := List.drop_eq_nil_of_le (by simp; omega)
  rw [e3, e4] at e2
  unfold Instr.fill
  rw [h0]
  simp only [hv]
  rw [if_neg (by simp; first | omega | (intro e; rw [e] at hz; simp at hz))]
  simp only [Nat.zero_add]
  rw [e1]
  unfold Instr.fill
  rw [h1]
  simp only [ec]
  rw [if_neg (by simp; omega)]
  unfold Instr.fill
  rw [e2]
  simp
def two_parts (P : Program) (t : TypeId) (m : Nat) : Bool :=
  match P.info? t, P.underlying t with
  | some it, some (.struct fields) => (match it.zero, fields.toList.mapM (fun f => (P.info? f.type).map fun i => (f.offset, i.size)) with
    | some z, some places => z.cells.size == m + 1 && places == [(0, 1), (1, m)]
    | _, _ => false)
  | _, _ => false
theorem built_two {P : Program} {t : TypeId} (m : Nat) (hb : two_parts P t m = true) (v : Value) (hv : v.cells = #[v]) (cs : Array Value) (hc : cs.size = m) : P.built t [(0, v), (1, .agg cs)] = some (#[v] ++ cs) := by
  unfold two_parts at hb
  unfold Program.built
  cases hit : P.info? t with
  | none => simp [hit] at hb
  | some it =>
    cases hu : P.underlying t with
    | none => simp [hit, hu] at hb
    | some d =>
      cases d <;> try (simp [hit, hu] at hb; done)
      case struct fields =>
        cases hz : it.zero with
        | none => simp [hit, hu, hz] at hb
        | some z =>
          cases hp : fields.toList.mapM (fun f => (P.info? f.type).map fun i => (f.offset, i.size)) with
          | none => simp only [hit, hu, hz, hp] at hb; cases hb
          | some places =>
            simp only [hit, hu, hz, hp, Bool.and_eq_true, beq_iff_eq] at hb ⊢
            obtain ⟨h1, h2⟩ := hb
            subst h2
            obtain ⟨cl⟩ := cs
            have := fill_two (fun i => #[(0, 1), (1, m)][i]?) z.cells.toList v cl m rfl rfl hv (by simpa using hc) (by simpa using h1)
            simpa using this
theorem buildS_run {P : Program} {a : Act} {oi : Oper} (w : World) {t : TypeId} {x y : Operand} {v : Value} {cs : Array Value} (ho : oi.op = .build t #[(0, x), (1, y)]) (hx : a.eval x = v) (hy : a.eval y = .agg cs) (hb : P.built t [(0, v), (1, .agg cs)] = some (#[v] ++ cs)) :
    (execOp a.eval oi).run P w = .ok (.value (.agg (#[v] ++ cs))) w := by
  unfold execOp
  simp only [ho, List.map_toArray, List.map_cons, List.map_nil, hx, hy, Sem.run_bind]
  rw [run_build w t _ _ hb]
  rfl
/-! #### cells of nested arrays, told as one list of whole numbers -/
theorem xcellI {W : World} {g : Nat} {t : TypeId} {xs : List Int} (h : W.heap[g]? = some (.cells (ics xs) t (0, 0))) (k : Nat) (hk : k < xs.length) : W.cell? ⟨g, k, none⟩ = some (.int .i64 (xs.getD k 0)) :=
  (blk_cell h k).trans (ics_get xs k hk)
def fieldAt (P : Program) (t : TypeId) (j : Nat) : Option (TypeId × Nat × Bool) :=
  match P.underlying t with
  | some (.struct fields) => fields[j]?.map fun f => (f.type, f.offset, match P.underlying f.type with | some (.struct _) => true | some (.array _ _) => true | _ => false)
  | _ => none
theorem fieldA_run {P : Program} {a : Act} {oi : Oper} (w : World) {t ft : TypeId} {off m : Nat} {x : Operand} {l : List Int} {j : Nat} (ho : oi.op = .field t x j) (hx : a.eval x = .agg (ics l)) (hf : fieldAt P t j = some (ft, off, true)) (hi : (P.info? ft).map (·.size) = some m) :
    (execOp a.eval oi).run P w = .ok (.value (.agg (ics ((l.drop off).take m)))) w := by
  obtain ⟨ti, hti, hm⟩ := Option.map_eq_some_iff.1 hi
  unfold fieldAt at hf
  cases hu : P.underlying t with
  | none => rw [hu] at hf; cases hf
  | some d =>
    cases d <;> try (rw [hu] at hf; cases hf; done)
    case struct fields =>
      rw [hu] at hf
      simp only at hf
      cases hj : fields[j]? with
      | none => rw [hj] at hf; cases hf
      | some f =>
        rw [hj] at hf
        simp only [Option.map_some, Option.some.injEq, Prod.mk.injEq] at hf
        obtain ⟨rfl, rfl, h3⟩ := hf
        have hag : (isAgg f.type).run P w = .ok true w := by
          cases hu2 : P.underlying f.type with
          | none => rw [hu2] at h3; cases h3
          | some d2 =>
            rw [hu2] at h3
            cases d2 <;> first | (simp [isAgg, run_underlying hu2]; done) | (cases h3; done)
        have hex : (ics l).extract f.offset (f.offset + m) = ics ((l.drop f.offset).take m) := by
          simp [ics, List.map_take, List.map_drop]
        unfold execOp
        simp only [ho, hx, Instr.field, Sem.run_bind, run_underlying hu, Result.andThen_ok, hj, asAgg, Sem.run_pure, part, hag, if_true, sizeOf, typeInfo, run_program, hti, hm, hex]
/-! #### function values -/
section
variable {P : Program}
/-- V, called at any world from W0 on, answers as g says, and what it makes is new. -/
def FnB (P : Program) (W0 : World) (V : Value) (g : Int → Option Bool) : Prop :=
  ∃ f first cap fn, V = .func (.func f) first cap ∧ P.funcs[f]? = some fn ∧ (fn.name == "runtime.NumGoroutine") = false ∧ fn.body.isSome = true ∧
    ∀ W, Below W0.heap.size W0 W → ∀ x r, g x = some r → Calls P f (first ++ #[.int .i64 x] ++ cap) W fun e W' => e = .returned (.bool r) ∧ Below W.heap.size W W'
theorem FnB.below {W0 W : World} {V : Value} {g : Int → Option Bool} (h : FnB P W0 V g) (hb : Below W0.heap.size W0 W) : FnB P W V g := by
  obtain ⟨f, first, cap, fn, e, hf, hn, hbd, hc⟩ := h
  exact ⟨f, first, cap, fn, e, hf, hn, hbd, fun W' hW => hc W' (below_step hb hW)⟩
theorem FnB.weaken {W0 : World} {V : Value} {g g' : Int → Option Bool} (h : FnB P W0 V g) (hg : ∀ x, LeO (g' x) (g x)) : FnB P W0 V g' := by
  obtain ⟨f, first, cap, fn, e, hf, hn, hbd, hc⟩ := h
  exact ⟨f, first, cap, fn, e, hf, hn, hbd, fun W' hW x r hr => hc W' hW x r (hg x r hr)⟩
theorem FnB.mk {W0 : World} {f : FuncId} {fn : Func} {first cap : Array Value} {g : Int → Option Bool} (hf : P.funcs[f]? = some fn) (hn : (fn.name == "runtime.NumGoroutine") = false) (hb : fn.body.isSome = true)
    (hc : ∀ W, Below W0.heap.size W0 W → ∀ x r, g x = some r → Calls P f (first ++ #[.int .i64 x] ++ cap) W fun e W' => e = .returned (.bool r) ∧ Below W.heap.size W W') : FnB P W0 (.func (.func f) first cap) g :=
  ⟨f, first, cap, fn, rfl, hf, hn, hb, hc⟩
/-- V, called at any world from W0 on with a list that can be read (in the shape that wr gives it), answers as g says, and what it makes is new. -/
def FnR (P : Program) (W0 : World) (V : Value) (wr : Value → Value) (g : List Int → Option Bool) : Prop :=
  ∃ f first cap fn, V = .func (.func f) first cap ∧ P.funcs[f]? = some fn ∧ (fn.name == "runtime.NumGoroutine") = false ∧ fn.body.isSome = true ∧
    ∀ W, Below W0.heap.size W0 W → ∀ A c l r, Kd.C (Kd.int .i64) W A l.length l → l.length ≤ c → g l = some r → Calls P f (first ++ #[wr (.slice A l.length c)] ++ cap) W fun e W' => e = .returned (.bool r) ∧ Below W.heap.size W W'
theorem FnR.below {W0 W : World} {V : Value} {wr : Value → Value} {g : List Int → Option Bool} (h : FnR P W0 V wr g) (hb : Below W0.heap.size W0 W) : FnR P W V wr g := by
  obtain ⟨f, first, cap, fn, e, hf, hn, hbd, hc⟩ := h
  exact ⟨f, first, cap, fn, e, hf, hn, hbd, fun W' hW => hc W' (below_step hb hW)⟩
theorem FnR.mk {W0 : World} {f : FuncId} {fn : Func} {first cap : Array Value} {wr : Value → Value} {g : List Int → Option Bool} (hf : P.funcs[f]? = some fn) (hn : (fn.name == "runtime.NumGoroutine") = false) (hb : fn.body.isSome = true)
    (hc : ∀ W, Below W0.heap.size W0 W → ∀ A c l r, Kd.C (Kd.int .i64) W A l.length l → l.length ≤ c → g l = some r → Calls P f (first ++ #[wr (.slice A l.length c)] ++ cap) W fun e W' => e = .returned (.bool r) ∧ Below W.heap.size W W') : FnR P W0 (.func (.func f) first cap) wr g :=
  ⟨f, first, cap, fn, rfl, hf, hn, hb, hc⟩
theorem FnB.shape {W0 : World} {V : Value} {g : Int → Option Bool} (h : FnB P W0 V g) : ∃ f first cap, V = .func (.func f) first cap := by
  obtain ⟨f, first, cap, fn, e, _⟩ := h
  exact ⟨f, first, cap, e⟩
/-- V, called at any world from W0 on with two numbers, answers as g says, and what it makes is new. -/
def FnI2 (P : Program) (W0 : World) (V : Value) (g : Int → Int → Option Int) : Prop :=
  ∃ f first cap fn, V = .func (.func f) first cap ∧ P.funcs[f]? = some fn ∧ (fn.name == "runtime.NumGoroutine") = false ∧ fn.body.isSome = true ∧
    ∀ W, Below W0.heap.size W0 W → ∀ x y r, g x y = some r → Calls P f (first ++ #[.int .i64 x, .int .i64 y] ++ cap) W fun e W' => e = .returned (.int .i64 r) ∧ Below W.heap.size W W'
theorem FnI2.below {W0 W : World} {V : Value} {g : Int → Int → Option Int} (h : FnI2 P W0 V g) (hb : Below W0.heap.size W0 W) : FnI2 P W V g := by
  obtain ⟨f, first, cap, fn, e, hf, hn, hbd, hc⟩ := h
  exact ⟨f, first, cap, fn, e, hf, hn, hbd, fun W' hW => hc W' (below_step hb hW)⟩
theorem FnI2.mk {W0 : World} {f : FuncId} {fn : Func} {first cap : Array Value} {g : Int → Int → Option Int} (hf : P.funcs[f]? = some fn) (hn : (fn.name == "runtime.NumGoroutine") = false) (hb : fn.body.isSome = true)
    (hc : ∀ W, Below W0.heap.size W0 W → ∀ x y r, g x y = some r → Calls P f (first ++ #[.int .i64 x, .int .i64 y] ++ cap) W fun e W' => e = .returned (.int .i64 r) ∧ Below W.heap.size W W') : FnI2 P W0 (.func (.func f) first cap) g :=
  ⟨f, first, cap, fn, rfl, hf, hn, hb, hc⟩
variable {ops : Array Oper} {rest : List Oper} {Q : Exit → Act → World → Prop}
/-- A call of a function value in a plain region, as an arm. -/
theorem goesB {oi : Oper} {a : Act} {w : World} (N : Option Tmp) (hd : oi.dst = N) (hg : oi.guard = none) {y z : Operand} {ts : Array TypeId} {V : Value} {g : Int → Option Bool} {x : Int} {r : Bool}
    (hop : oi.op = .call { callee := .value y, args := #[z], argTypes := ts }) (hy : a.eval y = V) (hz : a.eval z = .int .i64 x) (hF : FnB P w V g) (hr : g x = some r)
    (h : ∀ w', Below w.heap.size w w' → wpList P ops Q rest (a.put N (.bool r)) w') : wpList P ops Q (oi :: rest) a w := by
  obtain ⟨f, first, cap, fn, rfl, hf, hn, hb, hc⟩ := hF
  refine wpList_plain hg fun K hK => ?_
  have he := enters_ hf hn hb (first ++ #[.int .i64 x] ++ cap) w
  have hy' := hy
  have hz' := hz
  have hrun : (execOp a.eval oi).run P w = .ok (.enter f (first ++ #[.int .i64 x] ++ cap)) w := by
    unfold execOp
    simp only [hop, resolve, Deferred.ofValue, hy', Sem.run_bind, Sem.run_pure, Result.andThen_ok]
    simp only [invoke, List.map_toArray, List.map_cons, List.map_nil, hz']
    exact he
  unfold Oper.wp
  rw [hrun, Oper.upon_enter]
  refine (hc w (Below.refl _ _) x r hr).mono fun e w'' hh => ?_
  obtain ⟨rfl, hbb⟩ := hh
  subst hd
  exact hK _ _ (h w'' hbb)
theorem goesR {oi : Oper} {a : Act} {w : World} (N : Option Tmp) (hd : oi.dst = N) (hg : oi.guard = none) {y z : Operand} {ts : Array TypeId} {V : Value} {wr : Value → Value} {g : List Int → Option Bool} {A : Option Addr} {c : Nat} {l : List Int} {r : Bool}
    (hop : oi.op = .call { callee := .value y, args := #[z], argTypes := ts }) (hy : a.eval y = V) (hz : a.eval z = wr (.slice A l.length c)) (hF : FnR P w V wr g) (hC : Kd.C (Kd.int .i64) w A l.length l) (hle : l.length ≤ c) (hr : g l = some r)
    (h : ∀ w', Below w.heap.size w w' → wpList P ops Q rest (a.put N (.bool r)) w') : wpList P ops Q (oi :: rest) a w := by
  obtain ⟨f, first, cap, fn, rfl, hf, hn, hb, hc⟩ := hF
  refine wpList_plain hg fun K hK => ?_
  have he := enters_ hf hn hb (first ++ #[wr (.slice A l.length c)] ++ cap) w
  have hy' := hy
  have hz' := hz
  have hrun : (execOp a.eval oi).run P w = .ok (.enter f (first ++ #[wr (.slice A l.length c)] ++ cap)) w := by
    unfold execOp
    simp only [hop, resolve, Deferred.ofValue, hy', Sem.run_bind, Sem.run_pure, Result.andThen_ok]
    simp only [invoke, List.map_toArray, List.map_cons, List.map_nil, hz']
    exact he
  unfold Oper.wp
  rw [hrun, Oper.upon_enter]
  refine (hc w (Below.refl _ _) A c l r hC hle hr).mono fun e w'' hh => ?_
  obtain ⟨rfl, hbb⟩ := hh
  subst hd
  exact hK _ _ (h w'' hbb)
theorem goesI2 {oi : Oper} {a : Act} {w : World} (N : Option Tmp) (hd : oi.dst = N) (hg : oi.guard = none) {y z u : Operand} {ts : Array TypeId} {V : Value} {g : Int → Int → Option Int} {x1 x2 : Int} {r : Int}
    (hop : oi.op = .call { callee := .value y, args := #[z, u], argTypes := ts }) (hy : a.eval y = V) (hz : a.eval z = .int .i64 x1) (hu : a.eval u = .int .i64 x2) (hF : FnI2 P w V g) (hr : g x1 x2 = some r)
    (h : ∀ w', Below w.heap.size w w' → wpList P ops Q rest (a.put N (.int .i64 r)) w') : wpList P ops Q (oi :: rest) a w := by
  obtain ⟨f, first, cap, fn, rfl, hf, hn, hb, hc⟩ := hF
  refine wpList_plain hg fun K hK => ?_
  have he := enters_ hf hn hb (first ++ #[.int .i64 x1, .int .i64 x2] ++ cap) w
  have hy' := hy
  have hz' := hz
  have hu' := hu
  have hrun : (execOp a.eval oi).run P w = .ok (.enter f (first ++ #[.int .i64 x1, .int .i64 x2] ++ cap)) w := by
    unfold execOp
    simp only [hop, resolve, Deferred.ofValue, hy', Sem.run_bind, Sem.run_pure, Result.andThen_ok]
    simp only [invoke, List.map_toArray, List.map_cons, List.map_nil, hz', hu']
    exact he
  unfold Oper.wp
  rw [hrun, Oper.upon_enter]
  refine (hc w (Below.refl _ _) x1 x2 r hr).mono fun e w'' hh => ?_
  obtain ⟨rfl, hbb⟩ := hh
  subst hd
  exact hK _ _ (h w'' hbb)
/-- A call of a function value in a region that draws its order, by what it answers. -/
theorem goesV_ {oi : Oper} {N : Option Tmp} {a : Act} {w : World} {K : Act → World → Prop} {y z : Operand} {ts : Array TypeId} {V : Value} {g : Int → Option Bool} {x : Int} {r : Bool}
    (hw : Region.wanted oi (yielded ops a.tmps) = true) (hN : oi.dst = N) (hop : oi.op = .call { callee := .value y, args := #[z], argTypes := ts }) (hy : a.eval y = V) (hz : a.eval z = .int .i64 x) (hF : FnB P w V g) (hr : g x = some r)
    (h : ∀ w', Below w.heap.size w w' → K (a.put N (.bool r)) w') : if Region.wanted oi (yielded ops a.tmps) = true then Oper.wp P oi a w K Q else K (a.put N undef) w := by
  obtain ⟨f, first, cap, fn, rfl, hf, hn, hb, hc⟩ := hF
  have he := enters_ hf hn hb (first ++ #[.int .i64 x] ++ cap) w
  have hrun : (execOp a.eval oi).run P w = .ok (.enter f (first ++ #[.int .i64 x] ++ cap)) w := by
    unfold execOp
    simp only [hop, resolve, Deferred.ofValue, hy, Sem.run_bind, Sem.run_pure, Result.andThen_ok]
    simp only [invoke, List.map_toArray, List.map_cons, List.map_nil, hz]
    exact he
  rw [if_pos hw]
  unfold Oper.wp
  rw [hrun, Oper.upon_enter]
  refine (hc w (Below.refl _ _) x r hr).mono fun e w'' hh => ?_
  obtain ⟨rfl, hbb⟩ := hh
  subst hN
  exact h w'' hbb
end
end Go.Proofs.YtlbhfbanbdahdaaM
