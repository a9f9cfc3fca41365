-- Written by a program of this session's own (wip/wgen.py): what functions of the program compute, and that they do.
import Derived.Below
import Derived.Deep.Draws
import Derived.Deep.AppendLies
import Derived.Maps.AppendAt
import Derived.OwnWalk
import Derived.Laws.BytesArg
import Derived.Laws.MakeOwn
import Derived.Laws.OwnMore
import Derived.Deep.OwnRows
import Derived.Tactics
import Derived.Lib.ConvBytes
import Derived.Laws.Slices
import Derived.WalkKit
import Derived.KernelRfl
import Derived.RowKit3
import Derived.Deep.LoopGhost
import Derived.Deep.QuietTactic
import Derived.BigQuiet
import Derived.WideLaws
import Derived.Deep.DeepCutAuto
import Derived.Deep.CutBlock
import Derived.Deep.RegionHeld3
import Derived.Laws.Rows
import Derived.Lib.AppendStr
import Derived.ArgAppend
import Derived.Laws.IdiomCopy
import Derived.OrdersHeld
import Derived.Laws.BitsLemmas
import Derived.RowKit
import Derived.Lib.SliceRun
import Derived.Test.YtblhjcdfccggfaaHM
import Derived.Test.YtblhjcdfccggfaaRG
import Derived.Test.YtblhjcdfccggfaaProg
import Derived.Test.YtblhjcdfccggfaaK1
import Derived.Test.YtblhjcdfccggfaaK2
import Derived.Test.YtblhjcdfccggfaaKL1
import Derived.Test.YtblhjcdfccggfaaQI
import Derived.Test.YtblhjcdfccggfaaCO
import Derived.Test.YtblhjcdfccggfaaQL
import Derived.Test.YtblhjcdfccggfaaQM
namespace Go.Proofs.Ytblhjcdfccggfaa.Q
open Go.RowKit Go.Proofs.YtblhjcdfccggfaaW.PrintWords Go.Proofs.YtblhjcdfccggfaaW.PrintLast Go.Proofs.YtblhjcdfccggfaaW.PrintMore Go.Proofs.YtblhjcdfccggfaaM Go.Proofs.Ytblhjcdfccggfaa.K Go.Proofs.Ytblhjcdfccggfaa.KL
attribute [local go_sem] max2_int min2_int max_two min_two max_three min_three max_four min_four
set_option linter.unusedVariables false
set_option linter.unusedSimpArgs false

/-! ### slices_Equal_int_int: function 35 -/
def slices_Equal_int_int.l0 : Nat → (List Int) → (List Int) → (Int) → (Int) → Option (Bool)
  | 0, _, _, _, _ => none
  | k + 1, x0, x1, x12, x13 => if x13 < x12 then (if 0 ≤ x13 then (if x13 < (x0.length : Int) then (if x13 < (x1.length : Int) then (if (rd x0 x13) = (rd x1 x13) then (slices_Equal_int_int.l0 k x0 x1 x12 (wrap64 (x13 + 1))) else (some false)) else (none)) else (none)) else (none)) else (some true)
def slices_Equal_int_int.f (k : Nat) (l0 : List Int) (l1 : List Int) : Option (Bool) := if (l0.length : Int) = (l1.length : Int) then (slices_Equal_int_int.l0 k l0 l1 (l0.length : Int) 0) else (some false)
set_option maxHeartbeats 8000000 in
set_option maxRecDepth 100000 in
theorem slices_Equal_int_int.calls (k : Nat) (A0 : Option Addr) (c0 : Nat) (l0 : List Int) (A1 : Option Addr) (c1 : Nat) (l1 : List Int) (r : Bool) (w : World) (hr0 : Kd.C (Kd.int .i64) w A0 l0.length l0) (hc0 : l0.length ≤ c0) (hr1 : Kd.C (Kd.int .i64) w A1 l1.length l1) (hc1 : l1.length ≤ c1) (h : slices_Equal_int_int.f k l0 l1 = some r) :
    Calls Try.prog 35 #[.slice A0 l0.length c0, .slice A1 l1.length c1] w fun e w' => e = .returned (.bool r) ∧ Drawn0 w w' := by
  have HR0 := Aside0.mk hr0
  have HC0 := Aside0.mk hc0
  clear hr0 hc0
  have HR1 := Aside0.mk hr1
  have HC1 := Aside0.mk hc1
  clear hr1 hc1
  have hu22 := Try.underlying22
  have HM := Aside0.mk (MS.start w)
  have HD := Aside0.mk (Drawn0.refl w)
  have H : (if (l0.length : Int) = (l1.length : Int) then (slices_Equal_int_int.l0 k l0 l1 (l0.length : Int) 0) else (some false)) = some r := h
  clear h
  by_cases c1_ : (l0.length : Int) = (l1.length : Int)
  · rw [if_pos c1_] at H
    have c1_b0 : ((l0.length : Int) == (l1.length : Int)) = true := beq_iff_eq.mpr c1_
    have c1_b1 : ((l0.length : Int) != (l1.length : Int)) = false := bne_eq_false_iff_eq.mpr c1_
    have c1_b2 : (l0.length == l1.length) = true := by first | simpa using c1_ | (simp at c1_ ⊢; omega)
    clear c1_
    have H' := Aside0.mk H
    clear H
    go_enter Try.func35, Try.ntmps35
    go_wp2
    go_loopg [13] k (fun kq v13 w' => ∃ (x13_2 : Int), v13 = .int .i64 x13_2 ∧ Aside0 (slices_Equal_int_int.l0 kq l0 l1 (l0.length : Int) x13_2 = some r) ∧ Aside0 (kq ≤ k) ∧ Aside0 (Drawn0 w w') ∧ Aside0 (MS w w' []))
    case atStart => exact ⟨(0), (by first | rfl | (simp; done) | (simp only [i64_w]; done) | (simp [i64_w]; done) | (simp [*]; done)), H', ⟨Nat.le_refl _⟩, HD, HM⟩
    case round =>
      clear H'
      clear HM HD
      obtain ⟨x13_2, rfl, HA, HK3_, HD, HM⟩ := hrel
      cases gk with
      | zero => exact absurd HA.out (by simp [slices_Equal_int_int.l0])
      | succ k4_ =>
        have H := HA.out
        clear HA
        simp only [slices_Equal_int_int.l0] at H
        by_cases c5_ : x13_2 < (l0.length : Int)
        · rw [if_pos c5_] at H
          have c5_b0 : decide (x13_2 < (l0.length : Int)) = true := decide_eq_true c5_
          clear c5_
          by_cases c6_ : 0 ≤ x13_2
          · rw [if_pos c6_] at H
            have c6_b0 : decide (0 ≤ x13_2) = true := decide_eq_true c6_
            clear c6_
            by_cases c7_ : x13_2 < (l0.length : Int)
            · rw [if_pos c7_] at H
              have c7_b0 : decide (x13_2 < (l0.length : Int)) = true := decide_eq_true c7_
              clear c7_
              by_cases c8_ : x13_2 < (l1.length : Int)
              · rw [if_pos c8_] at H
                have c8_b0 : decide (x13_2 < (l1.length : Int)) = true := decide_eq_true c8_
                clear c8_
                by_cases c9_ : (rd l0 x13_2) = (rd l1 x13_2)
                · rw [if_pos c9_] at H
                  have c9_b0 : ((rd l0 x13_2) == (rd l1 x13_2)) = true := beq_iff_eq.mpr c9_
                  have c9_b1 : ((rd l0 x13_2) != (rd l1 x13_2)) = false := bne_eq_false_iff_eq.mpr c9_
                  clear c9_
                  have H' := Aside0.mk H
                  clear H
                  go_wp2
                  have p101 : 0 ≤ (x13_2 : Int) := of_decide_eq_true (by first | (with_reducible assumption) | assumption)
                  have q101 : (x13_2 : Int) < (l0.length : Int) := of_decide_eq_true (by first | (with_reducible assumption) | assumption)
                  obtain ⟨ad101, e101, hx101⟩ := Kd.at_int HR0.out x13_2 p101 q101
                  cases e101
                  replace hx101 := (HM.out.below.cell (World.block_lt_of_cell? w _ hx101)).trans hx101
                  replace p101 := eq_true p101
                  replace q101 := eq_true q101
                  have p102 : 0 ≤ (x13_2 : Int) := of_decide_eq_true (by first | (with_reducible assumption) | assumption)
                  have q102 : (x13_2 : Int) < (l1.length : Int) := of_decide_eq_true (by first | (with_reducible assumption) | assumption)
                  obtain ⟨ad102, e102, hx102⟩ := Kd.at_int HR1.out x13_2 p102 q102
                  cases e102
                  replace hx102 := (HM.out.below.cell (World.block_lt_of_cell? w _ hx102)).trans hx102
                  replace p102 := eq_true p102
                  replace q102 := eq_true q102
                  go_quiet (fail)
                  generalize hw : World.drewN _ _ = w10_
                  have n_ := Aside0.mk (HM.out.step (show Below _ _ w10_ from hw ▸ pw_below_drewN (Below.refl _ _) _))
                  have nd_ := Aside0.mk (HD.out.trans (show Drawn0 _ w10_ from ⟨⟨_, hw.symm⟩⟩))
                  clear HD
                  have HD := nd_
                  clear nd_
                  clear HM hw
                  have HM := n_
                  clear n_
                  go_wp2
                  go_roundg k4_
                  case measure => have hHK3__ := HK3_.out; omega
                  case rel => exact ⟨(wrap64 (x13_2 + 1)), (by first | rfl | (simp; done) | (simp only [i64_w]; done) | (simp [i64_w]; done) | (simp [*]; done)), H', ⟨by have hHK3__ := HK3_.out; omega⟩, HD, HM⟩
                · rw [if_neg c9_] at H
                  have c9_b0 : ((rd l0 x13_2) == (rd l1 x13_2)) = false := beq_eq_false_iff_ne.mpr c9_
                  have c9_b1 : ((rd l0 x13_2) != (rd l1 x13_2)) = true := bne_iff_ne.mpr c9_
                  clear c9_
                  obtain rfl := Option.some.inj H
                  go_wp2
                  have p101 : 0 ≤ (x13_2 : Int) := of_decide_eq_true (by first | (with_reducible assumption) | assumption)
                  have q101 : (x13_2 : Int) < (l0.length : Int) := of_decide_eq_true (by first | (with_reducible assumption) | assumption)
                  obtain ⟨ad101, e101, hx101⟩ := Kd.at_int HR0.out x13_2 p101 q101
                  cases e101
                  replace hx101 := (HM.out.below.cell (World.block_lt_of_cell? w _ hx101)).trans hx101
                  replace p101 := eq_true p101
                  replace q101 := eq_true q101
                  have p102 : 0 ≤ (x13_2 : Int) := of_decide_eq_true (by first | (with_reducible assumption) | assumption)
                  have q102 : (x13_2 : Int) < (l1.length : Int) := of_decide_eq_true (by first | (with_reducible assumption) | assumption)
                  obtain ⟨ad102, e102, hx102⟩ := Kd.at_int HR1.out x13_2 p102 q102
                  cases e102
                  replace hx102 := (HM.out.below.cell (World.block_lt_of_cell? w _ hx102)).trans hx102
                  replace p102 := eq_true p102
                  replace q102 := eq_true q102
                  go_quiet (fail)
                  generalize hw : World.drewN _ _ = w11_
                  have n_ := Aside0.mk (HM.out.step (show Below _ _ w11_ from hw ▸ pw_below_drewN (Below.refl _ _) _))
                  have nd_ := Aside0.mk (HD.out.trans (show Drawn0 _ w11_ from ⟨⟨_, hw.symm⟩⟩))
                  clear HD
                  have HD := nd_
                  clear nd_
                  clear HM hw
                  have HM := n_
                  clear n_
                  go_wp2
                  go_ret
                  exact ⟨by first | rfl | (simp; done) | (simp only [i64_w]; done) | (simp [i64_w]; done) | (simp [*]; done), HD.out⟩
              · rw [if_neg c8_] at H
                have c8_b0 : decide (x13_2 < (l1.length : Int)) = false := decide_eq_false c8_
                clear c8_
                exact absurd H (by simp)
            · rw [if_neg c7_] at H
              have c7_b0 : decide (x13_2 < (l0.length : Int)) = false := decide_eq_false c7_
              clear c7_
              exact absurd H (by simp)
          · rw [if_neg c6_] at H
            have c6_b0 : decide (0 ≤ x13_2) = false := decide_eq_false c6_
            clear c6_
            exact absurd H (by simp)
        · rw [if_neg c5_] at H
          have c5_b0 : decide (x13_2 < (l0.length : Int)) = false := decide_eq_false c5_
          clear c5_
          obtain rfl := Option.some.inj H
          go_wp2
          go_ret
          exact ⟨by first | rfl | (simp; done) | (simp only [i64_w]; done) | (simp [i64_w]; done) | (simp [*]; done), HD.out⟩
  · rw [if_neg c1_] at H
    have c1_b0 : ((l0.length : Int) == (l1.length : Int)) = false := beq_eq_false_iff_ne.mpr c1_
    have c1_b1 : ((l0.length : Int) != (l1.length : Int)) = true := bne_iff_ne.mpr c1_
    have c1_b2 : (l0.length == l1.length) = false := by first | simpa using c1_ | (simp at c1_ ⊢; omega)
    clear c1_
    obtain rfl := Option.some.inj H
    go_enter Try.func35, Try.ntmps35
    go_wp2
    go_ret
    exact ⟨by first | rfl | (simp; done) | (simp only [i64_w]; done) | (simp [i64_w]; done) | (simp [*]; done), HD.out⟩

/-! ### impl_SameToOrder: function 17 -/
def impl_SameToOrder.l0 : Nat → (List (List Int)) → (List (List Int)) → (Int) → (Int) → Option (Bool × Bool)
  | 0, _, _, _, _ => none
  | k + 1, x8, x9, x29, x30 => if x30 < x29 then (if 0 ≤ x30 then (if x30 < 4 then ((slices_Equal_int_int.f k (rdOf [] x8 x30) (rdOf [] x9 x30)).bind fun t108 => (if t108 = true then (impl_SameToOrder.l0 k x8 x9 x29 (wrap64 (x30 + 1))) else (some (false, true)))) else (none)) else (none)) else (some (true, true))
def impl_SameToOrder.f (k : Nat) (l0 : List Int) (l1 : List Int) (a2 : Int) : Option (Bool × Bool) := (impl_areWords.f k [l0, l1]).bind fun t103 => (if t103 = true then (if a2 < 0 then (some (false, false)) else (if a2 > 3 then (some (false, false)) else ((impl_coefficientsOf.f k l0).bind fun t104 => ((impl_coefficientsOf.f k l1).bind fun t105 => (impl_SameToOrder.l0 k t104 t105 (wrap64 (a2 + 1)) 0))))) else (some (false, false)))
set_option maxHeartbeats 8000000 in
set_option maxRecDepth 100000 in
theorem impl_SameToOrder.calls (k : Nat) (A0 : Option Addr) (c0 : Nat) (l0 : List Int) (A1 : Option Addr) (c1 : Nat) (l1 : List Int) (a2 : Int) (r1 : Bool) (r2 : Bool) (w : World) (hr0 : Kd.C (Kd.int .i64) w A0 l0.length l0) (hc0 : l0.length ≤ c0) (hr1 : Kd.C (Kd.int .i64) w A1 l1.length l1) (hc1 : l1.length ≤ c1) (h : impl_SameToOrder.f k l0 l1 a2 = some (r1, r2)) :
    Calls Try.prog 17 #[.slice A0 l0.length c0, .slice A1 l1.length c1, .int .i64 a2] w fun e w' => e = .returned (.tuple #[.bool r1, .bool r2]) ∧ Below w.heap.size w w' := by
  have HR0 := Aside0.mk hr0
  have HC0 := Aside0.mk hc0
  clear hr0 hc0
  have HR1 := Aside0.mk hr1
  have HC1 := Aside0.mk hc1
  clear hr1 hc1
  have hu22 := Try.underlying22
  have hu63 := Try.underlying63
  have HM := Aside0.mk (MS.start w)
  have H : ((impl_areWords.f k [l0, l1]).bind fun t103 => (if t103 = true then (if a2 < 0 then (some (false, false)) else (if a2 > 3 then (some (false, false)) else ((impl_coefficientsOf.f k l0).bind fun t104 => ((impl_coefficientsOf.f k l1).bind fun t105 => (impl_SameToOrder.l0 k t104 t105 (wrap64 (a2 + 1)) 0))))) else (some (false, false)))) = some (r1, r2) := h
  clear h
  replace H := Option.bind_eq_some_iff.mp H
  obtain ⟨t103, A1_0, H⟩ := H
  replace H : (if t103 = true then (if a2 < 0 then (some (false, false)) else (if a2 > 3 then (some (false, false)) else ((impl_coefficientsOf.f k l0).bind fun t104 => ((impl_coefficientsOf.f k l1).bind fun t105 => (impl_SameToOrder.l0 k t104 t105 (wrap64 (a2 + 1)) 0))))) else (some (false, false))) = some (r1, r2) := H
  have A1_ := Aside0.mk A1_0
  clear A1_0
  by_cases c2_ : t103 = true
  · subst c2_
    have H1 : (if a2 < 0 then (some (false, false)) else (if a2 > 3 then (some (false, false)) else ((impl_coefficientsOf.f k l0).bind fun t104 => ((impl_coefficientsOf.f k l1).bind fun t105 => (impl_SameToOrder.l0 k t104 t105 (wrap64 (a2 + 1)) 0))))) = some (r1, r2) := by rw [if_pos rfl] at H; exact H
    clear H
    have H := H1
    clear H1
    by_cases c3_ : a2 < 0
    · rw [if_pos c3_] at H
      have KNc3_ := Aside0.mk c3_
      have c3_b0 : decide (a2 < 0) = true := decide_eq_true c3_
      clear c3_
      simp only [Option.some.injEq, Prod.mk.injEq] at H
      obtain ⟨rfl, rfl⟩ := H
      go_enter Try.func17, Try.ntmps17
      go_wp2_with (first | ((with_reducible refine gate_dst (N := 13) rfl ?_); refine Kd.event_run (v := .slice (some ⟨w.heap.size, 0, none⟩) 2 2) (w1 := w.alloc (.cells [.slice A0 l0.length c0, .slice A1 l1.length c1].toArray 22)) rfl ?hr ?_; (case hr => first | (go_simp; done) | (go_simp; rfl)); obtain ⟨gb1, hgb_⟩ : ∃ g_ : Nat, g_ = w.heap.size := ⟨_, rfl⟩; rw [← hgb_]; obtain ⟨w4_, hw_⟩ : ∃ w_ : World, w_ = w.alloc (.cells [.slice A0 l0.length c0, .slice A1 l1.length c1].toArray 22) := ⟨_, rfl⟩; rw [← hw_]; have n_ := Aside0.mk (HM.out.addLit [.slice A0 l0.length c0, .slice A1 l1.length c1] 22 (by simp) hgb_ hw_); clear HM; have HM := n_; clear n_; clear hgb_ hw_) | ((with_reducible refine gate_callee (f := 33) rfl ?_); (with_reducible refine gate_dst (N := 14) rfl ?_); refine goesL_ (some 14) rfl rfl Try.func33 (by kernel_rfl) rfl #[.slice (some ⟨gb1, 0, none⟩) [l0, l1].length 2] rfl (by (try simp only [List.map_toArray, List.map_cons, List.map_nil]); first | done | rfl | (simp only [List.length_drop, List.length_take]; rfl)) ?_; (with_reducible refine (impl_areWords.calls k _ _ [l0, l1] true _ ?sd0 ?sd1 A1_.out).mono ?_); (case sd0 => exact (HM.out.rows (d := (Kd.slice 3 (Kd.int .i64))) (xs := [l0, l1]) 0 rfl rfl (Reps.one (show (Kd.slice 3 (Kd.int .i64)).K _ l0 [.slice A0 l0.length c0] from ⟨A0, c0, rfl, HC0.out, (Kd.C_below HR0.out HM.out.below)⟩) (Reps.one (show (Kd.slice 3 (Kd.int .i64)).K _ l1 [.slice A1 l1.length c1] from ⟨A1, c1, rfl, HC1.out, (Kd.C_below HR1.out HM.out.below)⟩) (Reps.none _ _))) rfl).1); (case sd1 => exact (HM.out.rows (d := (Kd.slice 3 (Kd.int .i64))) (xs := [l0, l1]) 0 rfl rfl (Reps.one (show (Kd.slice 3 (Kd.int .i64)).K _ l0 [.slice A0 l0.length c0] from ⟨A0, c0, rfl, HC0.out, (Kd.C_below HR0.out HM.out.below)⟩) (Reps.one (show (Kd.slice 3 (Kd.int .i64)).K _ l1 [.slice A1 l1.length c1] from ⟨A1, c1, rfl, HC1.out, (Kd.C_below HR1.out HM.out.below)⟩) (Reps.none _ _))) rfl).2); rintro e_ w5_ ⟨rfl, hb⟩; refine ⟨_, rfl, ?_⟩; have n_ := Aside0.mk (HM.out.step hb); clear HM; have HM := n_; clear n_; clear hb))
      go_ret2
      exact ⟨by first | rfl | (simp; done) | (simp only [i64_w]; done) | (simp [i64_w]; done) | (simp [*]; done), HM.out.below⟩
    · rw [if_neg c3_] at H
      have KNc3_ := Aside0.mk c3_
      have c3_b0 : decide (a2 < 0) = false := decide_eq_false c3_
      clear c3_
      by_cases c6_ : a2 > 3
      · rw [if_pos c6_] at H
        have KNc6_ := Aside0.mk c6_
        have c6_b0 : decide (3 < a2) = true := decide_eq_true c6_
        clear c6_
        simp only [Option.some.injEq, Prod.mk.injEq] at H
        obtain ⟨rfl, rfl⟩ := H
        go_enter Try.func17, Try.ntmps17
        go_wp2_with (first | ((with_reducible refine gate_dst (N := 13) rfl ?_); refine Kd.event_run (v := .slice (some ⟨w.heap.size, 0, none⟩) 2 2) (w1 := w.alloc (.cells [.slice A0 l0.length c0, .slice A1 l1.length c1].toArray 22)) rfl ?hr ?_; (case hr => first | (go_simp; done) | (go_simp; rfl)); obtain ⟨gb1, hgb_⟩ : ∃ g_ : Nat, g_ = w.heap.size := ⟨_, rfl⟩; rw [← hgb_]; obtain ⟨w7_, hw_⟩ : ∃ w_ : World, w_ = w.alloc (.cells [.slice A0 l0.length c0, .slice A1 l1.length c1].toArray 22) := ⟨_, rfl⟩; rw [← hw_]; have n_ := Aside0.mk (HM.out.addLit [.slice A0 l0.length c0, .slice A1 l1.length c1] 22 (by simp) hgb_ hw_); clear HM; have HM := n_; clear n_; clear hgb_ hw_) | ((with_reducible refine gate_callee (f := 33) rfl ?_); (with_reducible refine gate_dst (N := 14) rfl ?_); refine goesL_ (some 14) rfl rfl Try.func33 (by kernel_rfl) rfl #[.slice (some ⟨gb1, 0, none⟩) [l0, l1].length 2] rfl (by (try simp only [List.map_toArray, List.map_cons, List.map_nil]); first | done | rfl | (simp only [List.length_drop, List.length_take]; rfl)) ?_; (with_reducible refine (impl_areWords.calls k _ _ [l0, l1] true _ ?sd0 ?sd1 A1_.out).mono ?_); (case sd0 => exact (HM.out.rows (d := (Kd.slice 3 (Kd.int .i64))) (xs := [l0, l1]) 0 rfl rfl (Reps.one (show (Kd.slice 3 (Kd.int .i64)).K _ l0 [.slice A0 l0.length c0] from ⟨A0, c0, rfl, HC0.out, (Kd.C_below HR0.out HM.out.below)⟩) (Reps.one (show (Kd.slice 3 (Kd.int .i64)).K _ l1 [.slice A1 l1.length c1] from ⟨A1, c1, rfl, HC1.out, (Kd.C_below HR1.out HM.out.below)⟩) (Reps.none _ _))) rfl).1); (case sd1 => exact (HM.out.rows (d := (Kd.slice 3 (Kd.int .i64))) (xs := [l0, l1]) 0 rfl rfl (Reps.one (show (Kd.slice 3 (Kd.int .i64)).K _ l0 [.slice A0 l0.length c0] from ⟨A0, c0, rfl, HC0.out, (Kd.C_below HR0.out HM.out.below)⟩) (Reps.one (show (Kd.slice 3 (Kd.int .i64)).K _ l1 [.slice A1 l1.length c1] from ⟨A1, c1, rfl, HC1.out, (Kd.C_below HR1.out HM.out.below)⟩) (Reps.none _ _))) rfl).2); rintro e_ w8_ ⟨rfl, hb⟩; refine ⟨_, rfl, ?_⟩; have n_ := Aside0.mk (HM.out.step hb); clear HM; have HM := n_; clear n_; clear hb))
        go_ret2
        exact ⟨by first | rfl | (simp; done) | (simp only [i64_w]; done) | (simp [i64_w]; done) | (simp [*]; done), HM.out.below⟩
      · rw [if_neg c6_] at H
        have KNc6_ := Aside0.mk c6_
        have c6_b0 : decide (3 < a2) = false := decide_eq_false c6_
        clear c6_
        replace H := Option.bind_eq_some_iff.mp H
        obtain ⟨t104, A9_0, H⟩ := H
        replace H : ((impl_coefficientsOf.f k l1).bind fun t105 => (impl_SameToOrder.l0 k t104 t105 (wrap64 (a2 + 1)) 0)) = some (r1, r2) := H
        have A9_ := Aside0.mk A9_0
        clear A9_0
        replace H := Option.bind_eq_some_iff.mp H
        obtain ⟨t105, A10_0, H⟩ := H
        replace H : (impl_SameToOrder.l0 k t104 t105 (wrap64 (a2 + 1)) 0) = some (r1, r2) := H
        have A10_ := Aside0.mk A10_0
        clear A10_0
        have H' := Aside0.mk H
        clear H
        go_enter Try.func17, Try.ntmps17
        go_wp2_with (first | ((with_reducible refine gate_dst (N := 13) rfl ?_); refine Kd.event_run (v := .slice (some ⟨w.heap.size, 0, none⟩) 2 2) (w1 := w.alloc (.cells [.slice A0 l0.length c0, .slice A1 l1.length c1].toArray 22)) rfl ?hr ?_; (case hr => first | (go_simp; done) | (go_simp; rfl)); obtain ⟨gb1, hgb_⟩ : ∃ g_ : Nat, g_ = w.heap.size := ⟨_, rfl⟩; rw [← hgb_]; obtain ⟨w11_, hw_⟩ : ∃ w_ : World, w_ = w.alloc (.cells [.slice A0 l0.length c0, .slice A1 l1.length c1].toArray 22) := ⟨_, rfl⟩; rw [← hw_]; have n_ := Aside0.mk (HM.out.addLit [.slice A0 l0.length c0, .slice A1 l1.length c1] 22 (by simp) hgb_ hw_); clear HM; have HM := n_; clear n_; clear hgb_ hw_) | ((with_reducible refine gate_callee (f := 33) rfl ?_); (with_reducible refine gate_dst (N := 14) rfl ?_); refine goesL_ (some 14) rfl rfl Try.func33 (by kernel_rfl) rfl #[.slice (some ⟨gb1, 0, none⟩) [l0, l1].length 2] rfl (by (try simp only [List.map_toArray, List.map_cons, List.map_nil]); first | done | rfl | (simp only [List.length_drop, List.length_take]; rfl)) ?_; (with_reducible refine (impl_areWords.calls k _ _ [l0, l1] true _ ?sd0 ?sd1 A1_.out).mono ?_); (case sd0 => exact (HM.out.rows (d := (Kd.slice 3 (Kd.int .i64))) (xs := [l0, l1]) 0 rfl rfl (Reps.one (show (Kd.slice 3 (Kd.int .i64)).K _ l0 [.slice A0 l0.length c0] from ⟨A0, c0, rfl, HC0.out, (Kd.C_below HR0.out HM.out.below)⟩) (Reps.one (show (Kd.slice 3 (Kd.int .i64)).K _ l1 [.slice A1 l1.length c1] from ⟨A1, c1, rfl, HC1.out, (Kd.C_below HR1.out HM.out.below)⟩) (Reps.none _ _))) rfl).1); (case sd1 => exact (HM.out.rows (d := (Kd.slice 3 (Kd.int .i64))) (xs := [l0, l1]) 0 rfl rfl (Reps.one (show (Kd.slice 3 (Kd.int .i64)).K _ l0 [.slice A0 l0.length c0] from ⟨A0, c0, rfl, HC0.out, (Kd.C_below HR0.out HM.out.below)⟩) (Reps.one (show (Kd.slice 3 (Kd.int .i64)).K _ l1 [.slice A1 l1.length c1] from ⟨A1, c1, rfl, HC1.out, (Kd.C_below HR1.out HM.out.below)⟩) (Reps.none _ _))) rfl).2); rintro e_ w12_ ⟨rfl, hb⟩; refine ⟨_, rfl, ?_⟩; have n_ := Aside0.mk (HM.out.step hb); clear HM; have HM := n_; clear n_; clear hb) | ((with_reducible refine gate_callee (f := 34) rfl ?_); (with_reducible refine gate_dst (N := 25) rfl ?_); refine goesL_ (some 25) rfl rfl Try.func34 (by kernel_rfl) rfl #[.slice A0 l0.length c0] rfl (by (try simp only [List.map_toArray, List.map_cons, List.map_nil]); first | done | rfl | (simp only [List.length_drop, List.length_take]; rfl)) ?_; (with_reducible refine (impl_coefficientsOf.calls k _ _ l0 t104 _ ?sd0 ?sd1 A9_.out).mono ?_); (case sd0 => exact (Kd.C_below HR0.out HM.out.below)); (case sd1 => exact HC0.out); rintro e_ w13_ ⟨vv0_, rfl, ho0_, hb⟩; refine ⟨_, rfl, ?_⟩; obtain ⟨hl_, gp2_, ev_, hF_⟩ := (id ho0_); subst ev_; obtain ⟨ow2, hF2_, hM_⟩ := HM.out.addRo hb hF_; have HRh2 := Aside0.mk hF2_; have HCh2 := Aside0.mk hl_; have n_ := Aside0.mk hM_; clear HM hF_ hF2_ hl_ hM_; have HM := n_; clear n_; clear hb ho0_) | ((with_reducible refine gate_callee (f := 34) rfl ?_); (with_reducible refine gate_dst (N := 27) rfl ?_); refine goesL_ (some 27) rfl rfl Try.func34 (by kernel_rfl) rfl #[.slice A1 l1.length c1] rfl (by (try simp only [List.map_toArray, List.map_cons, List.map_nil]); first | done | rfl | (simp only [List.length_drop, List.length_take]; rfl)) ?_; (with_reducible refine (impl_coefficientsOf.calls k _ _ l1 t105 _ ?sd0 ?sd1 A10_.out).mono ?_); (case sd0 => exact (Kd.C_below HR1.out HM.out.below)); (case sd1 => exact HC1.out); rintro e_ w14_ ⟨vv0_, rfl, ho0_, hb⟩; refine ⟨_, rfl, ?_⟩; obtain ⟨hl_, gp3_, ev_, hF_⟩ := (id ho0_); subst ev_; obtain ⟨ow3, hF2_, hM_⟩ := HM.out.addRo hb hF_; have HRh3 := Aside0.mk hF2_; have HCh3 := Aside0.mk hl_; have n_ := Aside0.mk hM_; clear HM hF_ hF2_ hl_ hM_; have HM := n_; clear n_; clear hb ho0_))
        go_loopg [30] k (fun kq v30 w' => ∃ (x30_15 : Int), v30 = .int .i64 x30_15 ∧ Aside0 (impl_SameToOrder.l0 kq t104 t105 (wrap64 (a2 + 1)) x30_15 = some (r1, r2)) ∧ Aside0 (kq ≤ k) ∧ Aside0 (MS w w' [.any ow3 (Agree ow3 w14_), .any ow2 (Agree ow2 w13_), .row 22 (.slice (some ⟨gb1, 0, none⟩) 2 2) [.slice A0 l0.length c0, .slice A1 l1.length c1]]))
        case atStart => exact ⟨(0), (by first | rfl | (simp; done) | (simp only [i64_w]; done) | (simp [i64_w]; done) | (simp [*]; done)), H', ⟨Nat.le_refl _⟩, HM⟩
        case round =>
          clear H'
          clear HM
          obtain ⟨x30_15, rfl, HA, HK16_, HM⟩ := hrel
          cases gk with
          | zero => exact absurd HA.out (by simp [impl_SameToOrder.l0])
          | succ k17_ =>
            have H := HA.out
            clear HA
            simp only [impl_SameToOrder.l0] at H
            by_cases c18_ : x30_15 < (wrap64 (a2 + 1))
            · rw [if_pos c18_] at H
              have c18_b0 : decide (x30_15 < (wrap64 (a2 + 1))) = true := decide_eq_true c18_
              clear c18_
              by_cases c19_ : 0 ≤ x30_15
              · rw [if_pos c19_] at H
                have c19_b0 : decide (0 ≤ x30_15) = true := decide_eq_true c19_
                clear c19_
                by_cases c20_ : x30_15 < 4
                · rw [if_pos c20_] at H
                  have c20_b0 : decide (x30_15 < 4) = true := decide_eq_true c20_
                  clear c20_
                  replace H := Option.bind_eq_some_iff.mp H
                  obtain ⟨t108, A21_0, H⟩ := H
                  replace H : (if t108 = true then (impl_SameToOrder.l0 k17_ t104 t105 (wrap64 (a2 + 1)) (wrap64 (x30_15 + 1))) else (some (false, true))) = some (r1, r2) := H
                  have A21_ := Aside0.mk A21_0
                  clear A21_0
                  by_cases c22_ : t108 = true
                  · subst c22_
                    have H1 : (impl_SameToOrder.l0 k17_ t104 t105 (wrap64 (a2 + 1)) (wrap64 (x30_15 + 1))) = some (r1, r2) := by rw [if_pos rfl] at H; exact H
                    clear H
                    have H := H1
                    clear H1
                    have H' := Aside0.mk H
                    clear H
                    go_wp2
                    have p106 : 0 ≤ (x30_15 : Int) := of_decide_eq_true (by first | (with_reducible assumption) | assumption)
                    have q106 : (x30_15 : Int) < 4 := of_decide_eq_true (by first | (with_reducible assumption) | assumption)
                    obtain ⟨ad106, Ae106, ce106, e106, hx106, hle106, hC106, hy106⟩ := held_elem HRh2.out (HM.out.any 1 rfl) x30_15 p106 q106
                    obtain rfl : ⟨gp2_, 0, none⟩ = ad106 := (by injection e106)
                    have HY106 := Aside0.mk hy106
                    clear hy106
                    rw [add_plain] at hx106
                    have HRe106 := Aside0.mk hC106
                    have HCe106 := Aside0.mk hle106
                    clear hC106 hle106
                    replace p106 := eq_true p106
                    replace q106 := eq_true q106
                    have p107 : 0 ≤ (x30_15 : Int) := of_decide_eq_true (by first | (with_reducible assumption) | assumption)
                    have q107 : (x30_15 : Int) < 4 := of_decide_eq_true (by first | (with_reducible assumption) | assumption)
                    obtain ⟨ad107, Ae107, ce107, e107, hx107, hle107, hC107, hy107⟩ := held_elem HRh3.out (HM.out.any 0 rfl) x30_15 p107 q107
                    obtain rfl : ⟨gp3_, 0, none⟩ = ad107 := (by injection e107)
                    have HY107 := Aside0.mk hy107
                    clear hy107
                    rw [add_plain] at hx107
                    have HRe107 := Aside0.mk hC107
                    have HCe107 := Aside0.mk hle107
                    clear hC107 hle107
                    replace p107 := eq_true p107
                    replace q107 := eq_true q107
                    go_quiet ((go_at_call 35; refine calls_quiet (v := .bool true) ?_; exact (slices_Equal_int_int.calls k17_ _ _ (rdOf [] t104 x30_15) _ _ (rdOf [] t105 x30_15) true _ (Kd.C_below (HM.out.heldC 1 rfl HRe106.out) (pw_below_drewN (Below.refl _ _) _)) HCe106.out (Kd.C_below (HM.out.heldC 0 rfl HRe107.out) (pw_below_drewN (Below.refl _ _) _)) HCe107.out A21_.out)))
                    generalize hw : World.drewN _ _ = w24_
                    have n_ := Aside0.mk (HM.out.step (show Below _ _ w24_ from hw ▸ pw_below_drewN (Below.refl _ _) _))
                    clear HM hw
                    have HM := n_
                    clear n_
                    go_wp2
                    go_roundg k17_
                    case measure => have hHK16__ := HK16_.out; omega
                    case rel => exact ⟨(wrap64 (x30_15 + 1)), (by first | rfl | (simp; done) | (simp only [i64_w]; done) | (simp [i64_w]; done) | (simp [*]; done)), H', ⟨by have hHK16__ := HK16_.out; omega⟩, HM⟩
                  · replace c22_ := Bool.eq_false_iff.mpr c22_
                    subst c22_
                    have H1 : (some (false, true)) = some (r1, r2) := by rw [if_neg (show ¬ (false = true) by decide)] at H; exact H
                    clear H
                    have H := H1
                    clear H1
                    simp only [Option.some.injEq, Prod.mk.injEq] at H
                    obtain ⟨rfl, rfl⟩ := H
                    go_wp2
                    have p106 : 0 ≤ (x30_15 : Int) := of_decide_eq_true (by first | (with_reducible assumption) | assumption)
                    have q106 : (x30_15 : Int) < 4 := of_decide_eq_true (by first | (with_reducible assumption) | assumption)
                    obtain ⟨ad106, Ae106, ce106, e106, hx106, hle106, hC106, hy106⟩ := held_elem HRh2.out (HM.out.any 1 rfl) x30_15 p106 q106
                    obtain rfl : ⟨gp2_, 0, none⟩ = ad106 := (by injection e106)
                    have HY106 := Aside0.mk hy106
                    clear hy106
                    rw [add_plain] at hx106
                    have HRe106 := Aside0.mk hC106
                    have HCe106 := Aside0.mk hle106
                    clear hC106 hle106
                    replace p106 := eq_true p106
                    replace q106 := eq_true q106
                    have p107 : 0 ≤ (x30_15 : Int) := of_decide_eq_true (by first | (with_reducible assumption) | assumption)
                    have q107 : (x30_15 : Int) < 4 := of_decide_eq_true (by first | (with_reducible assumption) | assumption)
                    obtain ⟨ad107, Ae107, ce107, e107, hx107, hle107, hC107, hy107⟩ := held_elem HRh3.out (HM.out.any 0 rfl) x30_15 p107 q107
                    obtain rfl : ⟨gp3_, 0, none⟩ = ad107 := (by injection e107)
                    have HY107 := Aside0.mk hy107
                    clear hy107
                    rw [add_plain] at hx107
                    have HRe107 := Aside0.mk hC107
                    have HCe107 := Aside0.mk hle107
                    clear hC107 hle107
                    replace p107 := eq_true p107
                    replace q107 := eq_true q107
                    go_quiet ((go_at_call 35; refine calls_quiet (v := .bool false) ?_; exact (slices_Equal_int_int.calls k17_ _ _ (rdOf [] t104 x30_15) _ _ (rdOf [] t105 x30_15) false _ (Kd.C_below (HM.out.heldC 1 rfl HRe106.out) (pw_below_drewN (Below.refl _ _) _)) HCe106.out (Kd.C_below (HM.out.heldC 0 rfl HRe107.out) (pw_below_drewN (Below.refl _ _) _)) HCe107.out A21_.out)))
                    generalize hw : World.drewN _ _ = w26_
                    have n_ := Aside0.mk (HM.out.step (show Below _ _ w26_ from hw ▸ pw_below_drewN (Below.refl _ _) _))
                    clear HM hw
                    have HM := n_
                    clear n_
                    go_wp2
                    go_ret2
                    exact ⟨by first | rfl | (simp; done) | (simp only [i64_w]; done) | (simp [i64_w]; done) | (simp [*]; done), HM.out.below⟩
                · rw [if_neg c20_] at H
                  have c20_b0 : decide (x30_15 < 4) = false := decide_eq_false c20_
                  clear c20_
                  exact absurd H (by simp)
              · rw [if_neg c19_] at H
                have c19_b0 : decide (0 ≤ x30_15) = false := decide_eq_false c19_
                clear c19_
                exact absurd H (by simp)
            · rw [if_neg c18_] at H
              have c18_b0 : decide (x30_15 < (wrap64 (a2 + 1))) = false := decide_eq_false c18_
              clear c18_
              simp only [Option.some.injEq, Prod.mk.injEq] at H
              obtain ⟨rfl, rfl⟩ := H
              go_wp2
              go_ret2
              exact ⟨by first | rfl | (simp; done) | (simp only [i64_w]; done) | (simp [i64_w]; done) | (simp [*]; done), HM.out.below⟩
  · replace c2_ := Bool.eq_false_iff.mpr c2_
    subst c2_
    have H1 : (some (false, false)) = some (r1, r2) := by rw [if_neg (show ¬ (false = true) by decide)] at H; exact H
    clear H
    have H := H1
    clear H1
    simp only [Option.some.injEq, Prod.mk.injEq] at H
    obtain ⟨rfl, rfl⟩ := H
    go_enter Try.func17, Try.ntmps17
    go_wp2_with (first | ((with_reducible refine gate_dst (N := 13) rfl ?_); refine Kd.event_run (v := .slice (some ⟨w.heap.size, 0, none⟩) 2 2) (w1 := w.alloc (.cells [.slice A0 l0.length c0, .slice A1 l1.length c1].toArray 22)) rfl ?hr ?_; (case hr => first | (go_simp; done) | (go_simp; rfl)); obtain ⟨gb1, hgb_⟩ : ∃ g_ : Nat, g_ = w.heap.size := ⟨_, rfl⟩; rw [← hgb_]; obtain ⟨w27_, hw_⟩ : ∃ w_ : World, w_ = w.alloc (.cells [.slice A0 l0.length c0, .slice A1 l1.length c1].toArray 22) := ⟨_, rfl⟩; rw [← hw_]; have n_ := Aside0.mk (HM.out.addLit [.slice A0 l0.length c0, .slice A1 l1.length c1] 22 (by simp) hgb_ hw_); clear HM; have HM := n_; clear n_; clear hgb_ hw_) | ((with_reducible refine gate_callee (f := 33) rfl ?_); (with_reducible refine gate_dst (N := 14) rfl ?_); refine goesL_ (some 14) rfl rfl Try.func33 (by kernel_rfl) rfl #[.slice (some ⟨gb1, 0, none⟩) [l0, l1].length 2] rfl (by (try simp only [List.map_toArray, List.map_cons, List.map_nil]); first | done | rfl | (simp only [List.length_drop, List.length_take]; rfl)) ?_; (with_reducible refine (impl_areWords.calls k _ _ [l0, l1] false _ ?sd0 ?sd1 A1_.out).mono ?_); (case sd0 => exact (HM.out.rows (d := (Kd.slice 3 (Kd.int .i64))) (xs := [l0, l1]) 0 rfl rfl (Reps.one (show (Kd.slice 3 (Kd.int .i64)).K _ l0 [.slice A0 l0.length c0] from ⟨A0, c0, rfl, HC0.out, (Kd.C_below HR0.out HM.out.below)⟩) (Reps.one (show (Kd.slice 3 (Kd.int .i64)).K _ l1 [.slice A1 l1.length c1] from ⟨A1, c1, rfl, HC1.out, (Kd.C_below HR1.out HM.out.below)⟩) (Reps.none _ _))) rfl).1); (case sd1 => exact (HM.out.rows (d := (Kd.slice 3 (Kd.int .i64))) (xs := [l0, l1]) 0 rfl rfl (Reps.one (show (Kd.slice 3 (Kd.int .i64)).K _ l0 [.slice A0 l0.length c0] from ⟨A0, c0, rfl, HC0.out, (Kd.C_below HR0.out HM.out.below)⟩) (Reps.one (show (Kd.slice 3 (Kd.int .i64)).K _ l1 [.slice A1 l1.length c1] from ⟨A1, c1, rfl, HC1.out, (Kd.C_below HR1.out HM.out.below)⟩) (Reps.none _ _))) rfl).2); rintro e_ w28_ ⟨rfl, hb⟩; refine ⟨_, rfl, ?_⟩; have n_ := Aside0.mk (HM.out.step hb); clear HM; have HM := n_; clear n_; clear hb))
    go_ret2
    exact ⟨by first | rfl | (simp; done) | (simp only [i64_w]; done) | (simp [i64_w]; done) | (simp [*]; done), HM.out.below⟩

end Go.Proofs.Ytblhjcdfccggfaa.Q
