-- Written by a program of this session's own (wip/wgen.py): what functions of the program compute, and that they do.
import Derived.Below
import Derived.Deep.Draws
import Derived.Deep.AppendLies
import Derived.Maps.AppendAt
import Derived.OwnWalk
import Derived.Laws.BytesArg
import Derived.Laws.MakeOwn
import Derived.Laws.OwnMore
import Derived.Deep.OwnRows
import Derived.Tactics
import Derived.Lib.ConvBytes
import Derived.Laws.Slices
import Derived.WalkKit
import Derived.KernelRfl
import Derived.RowKit3
import Derived.Deep.LoopGhost
import Derived.Deep.QuietTactic
import Derived.BigQuiet
import Derived.WideLaws
import Derived.Deep.DeepCutAuto
import Derived.Deep.CutBlock
import Derived.Deep.RegionHeld3
import Derived.Laws.Rows
import Derived.Lib.AppendStr
import Derived.ArgAppend
import Derived.Laws.IdiomCopy
import Derived.OrdersHeld
import Derived.Laws.BitsLemmas
import Derived.RowKit
import Derived.Lib.SliceRun
import Derived.Test.YtblhjcdfccggfaaHM
import Derived.Test.YtblhjcdfccggfaaRG
import Derived.Test.YtblhjcdfccggfaaProg
import Derived.Test.YtblhjcdfccggfaaK1
import Derived.Test.YtblhjcdfccggfaaK2
import Derived.Test.YtblhjcdfccggfaaKL1
import Derived.Test.YtblhjcdfccggfaaQI
import Derived.Test.YtblhjcdfccggfaaQ8
import Derived.Test.YtblhjcdfccggfaaQ9
namespace Go.Proofs.Ytblhjcdfccggfaa.Q
open Go.RowKit Go.Proofs.YtblhjcdfccggfaaW.PrintWords Go.Proofs.YtblhjcdfccggfaaW.PrintLast Go.Proofs.YtblhjcdfccggfaaW.PrintMore Go.Proofs.YtblhjcdfccggfaaM Go.Proofs.Ytblhjcdfccggfaa.K Go.Proofs.Ytblhjcdfccggfaa.KL
attribute [local go_sem] max2_int min2_int max_two min_two max_three min_three max_four min_four
set_option linter.unusedVariables false
set_option linter.unusedSimpArgs false

/-! ### impl_coefficients_of: function 42 -/
def impl_coefficients_of.f (k : Nat) (l0 : List (List Int)) (l1 : List Int) : Option (Int) := if 0 ≤ (l1.length : Int) then (if (l1.length : Int) < 4 then ((impl_index.f k l1).bind fun t138 => (if 0 ≤ t138 then (if t138 < ((rdOf [] l0 (l1.length : Int)).length : Int) then (some (rd (rdOf [] l0 (l1.length : Int)) t138)) else (none)) else (none))) else (none)) else (none)
set_option maxHeartbeats 8000000 in
set_option maxRecDepth 100000 in
theorem impl_coefficients_of.calls (k : Nat) (gp0 : Nat) (l0 : List (List Int)) (A1 : Option Addr) (c1 : Nat) (l1 : List Int) (r : Int) (w : World) (hr0 : Kd.C (Kd.slice 3 (Kd.int .i64)) w (some ⟨gp0, 0, none⟩) 4 l0) (hc0 : l0.length = 4) (hr1 : Kd.C (Kd.int .i64) w A1 l1.length l1) (hc1 : l1.length ≤ c1) (h : impl_coefficients_of.f k l0 l1 = some r) :
    Calls Try.prog 42 #[.pointer (some ⟨gp0, 0, none⟩), .slice A1 l1.length c1] w fun e w' => e = .returned (.int .i64 r) ∧ Drawn0 w w' := by
  have HR0 := Aside0.mk hr0
  have HC0 := Aside0.mk hc0
  clear hr0 hc0
  have HR1 := Aside0.mk hr1
  have HC1 := Aside0.mk hc1
  clear hr1 hc1
  have hu22 := Try.underlying22
  have hu63 := Try.underlying63
  have HM := Aside0.mk (MS.start w)
  have HD := Aside0.mk (Drawn0.refl w)
  have H : (if 0 ≤ (l1.length : Int) then (if (l1.length : Int) < 4 then ((impl_index.f k l1).bind fun t138 => (if 0 ≤ t138 then (if t138 < ((rdOf [] l0 (l1.length : Int)).length : Int) then (some (rd (rdOf [] l0 (l1.length : Int)) t138)) else (none)) else (none))) else (none)) else (none)) = some r := h
  clear h
  by_cases c1_ : 0 ≤ (l1.length : Int)
  · rw [if_pos c1_] at H
    have c1_b0 : decide (0 ≤ (l1.length : Int)) = true := decide_eq_true c1_
    have c1_b1 : decide (0 ≤ l1.length) = true := decide_eq_true (by omega)
    clear c1_
    by_cases c2_ : (l1.length : Int) < 4
    · rw [if_pos c2_] at H
      have c2_b0 : decide ((l1.length : Int) < 4) = true := decide_eq_true c2_
      have c2_b1 : decide (l1.length < 4) = true := decide_eq_true (by omega)
      clear c2_
      replace H := Option.bind_eq_some_iff.mp H
      obtain ⟨t138, A3_0, H⟩ := H
      replace H : (if 0 ≤ t138 then (if t138 < ((rdOf [] l0 (l1.length : Int)).length : Int) then (some (rd (rdOf [] l0 (l1.length : Int)) t138)) else (none)) else (none)) = some r := H
      have A3_ := Aside0.mk A3_0
      clear A3_0
      by_cases c4_ : 0 ≤ t138
      · rw [if_pos c4_] at H
        have c4_b0 : decide (0 ≤ t138) = true := decide_eq_true c4_
        clear c4_
        by_cases c5_ : t138 < ((rdOf [] l0 (l1.length : Int)).length : Int)
        · rw [if_pos c5_] at H
          have c5_b0 : decide (t138 < ((rdOf [] l0 (l1.length : Int)).length : Int)) = true := decide_eq_true c5_
          clear c5_
          obtain rfl := Option.some.inj H
          go_enter Try.func42, Try.ntmps42
          go_wp2
          have p137 : 0 ≤ ((l1.length : Int) : Int) := of_decide_eq_true (by first | (with_reducible assumption) | assumption)
          have q137 : ((l1.length : Int) : Int) < 4 := of_decide_eq_true (by first | (with_reducible assumption) | assumption)
          obtain ⟨ad137, Ae137, ce137, e137, hx137, hle137, hC137⟩ := row_elem HR0.out (l1.length : Int) p137 q137
          obtain rfl : ⟨gp0, 0, none⟩ = ad137 := (by injection e137)
          rw [add_plain] at hx137
          rw [Int.toNat_natCast] at hx137
          replace hx137 := (HM.out.below.cell (World.block_lt_of_cell? w _ hx137)).trans hx137
          have HRe137 := Aside0.mk hC137
          have HCe137 := Aside0.mk hle137
          clear hC137 hle137
          replace p137 := eq_true p137
          replace q137 := eq_true q137
          have p139 : 0 ≤ (t138 : Int) := of_decide_eq_true (by first | (with_reducible assumption) | assumption)
          have q139 : (t138 : Int) < ((rdOf [] l0 (l1.length : Int)).length : Int) := of_decide_eq_true (by first | (with_reducible assumption) | assumption)
          obtain ⟨ad139, e139, hx139⟩ := Kd.at_int HRe137.out t138 p139 q139
          cases e139
          replace hx139 := (HM.out.below.cell (World.block_lt_of_cell? w _ hx139)).trans hx139
          replace p139 := eq_true p139
          replace q139 := eq_true q139
          go_quiet ((go_at_call 57; refine calls_quiet (v := .int .i64 t138) ?_; exact (impl_index.calls k _ _ l1 t138 _ (Kd.C_drewN (Kd.C_below HR1.out HM.out.below) _) HC1.out A3_.out)))
          generalize hw : World.drewN _ _ = w7_
          have n_ := Aside0.mk (HM.out.step (show Below _ _ w7_ from hw ▸ pw_below_drewN (Below.refl _ _) _))
          have nd_ := Aside0.mk (HD.out.trans (show Drawn0 _ w7_ from ⟨⟨_, hw.symm⟩⟩))
          clear HD
          have HD := nd_
          clear nd_
          clear HM hw
          have HM := n_
          clear n_
          go_wp2
          go_ret
          exact ⟨by first | rfl | (simp; done) | (simp only [i64_w]; done) | (simp [i64_w]; done) | (simp [*]; done), HD.out⟩
        · rw [if_neg c5_] at H
          have c5_b0 : decide (t138 < ((rdOf [] l0 (l1.length : Int)).length : Int)) = false := decide_eq_false c5_
          clear c5_
          exact absurd H (by simp)
      · rw [if_neg c4_] at H
        have c4_b0 : decide (0 ≤ t138) = false := decide_eq_false c4_
        clear c4_
        exact absurd H (by simp)
    · rw [if_neg c2_] at H
      have c2_b0 : decide ((l1.length : Int) < 4) = false := decide_eq_false c2_
      have c2_b1 : decide (l1.length < 4) = false := decide_eq_false (by omega)
      clear c2_
      exact absurd H (by simp)
  · rw [if_neg c1_] at H
    have c1_b0 : decide (0 ≤ (l1.length : Int)) = false := decide_eq_false c1_
    have c1_b1 : decide (0 ≤ l1.length) = false := decide_eq_false (by omega)
    clear c1_
    exact absurd H (by simp)

end Go.Proofs.Ytblhjcdfccggfaa.Q
