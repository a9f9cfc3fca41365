-- Written by a program of this session's own (wip/wgen.py): what functions of the program compute, and that they do.
import Derived.Below
import Derived.Deep.Draws
import Derived.Deep.AppendLies
import Derived.Maps.AppendAt
import Derived.OwnWalk
import Derived.Laws.BytesArg
import Derived.Laws.MakeOwn
import Derived.Laws.OwnMore
import Derived.Deep.OwnRows
import Derived.Tactics
import Derived.Lib.ConvBytes
import Derived.Laws.Slices
import Derived.WalkKit
import Derived.KernelRfl
import Derived.RowKit3
import Derived.Deep.LoopGhost
import Derived.Deep.QuietTactic
import Derived.BigQuiet
import Derived.WideLaws
import Derived.Deep.DeepCutAuto
import Derived.Deep.CutBlock
import Derived.Deep.RegionHeld3
import Derived.Laws.Rows
import Derived.Lib.AppendStr
import Derived.ArgAppend
import Derived.Laws.IdiomCopy
import Derived.OrdersHeld
import Derived.Laws.BitsLemmas
import Derived.RowKit
import Derived.Lib.SliceRun
import Derived.Test.YtblhjcdfccggfaaHM
import Derived.Test.YtblhjcdfccggfaaRG
import Derived.Test.YtblhjcdfccggfaaProg
import Derived.Test.YtblhjcdfccggfaaK1
import Derived.Test.YtblhjcdfccggfaaK2
import Derived.Test.YtblhjcdfccggfaaKL1
import Derived.Test.YtblhjcdfccggfaaQI
import Derived.Test.YtblhjcdfccggfaaQ8
namespace Go.Proofs.Ytblhjcdfccggfaa.Q
open Go.RowKit Go.Proofs.YtblhjcdfccggfaaW.PrintWords Go.Proofs.YtblhjcdfccggfaaW.PrintLast Go.Proofs.YtblhjcdfccggfaaW.PrintMore Go.Proofs.YtblhjcdfccggfaaM Go.Proofs.Ytblhjcdfccggfaa.K Go.Proofs.Ytblhjcdfccggfaa.KL
attribute [local go_sem] max2_int min2_int max_two min_two max_three min_three max_four min_four
set_option linter.unusedVariables false
set_option linter.unusedSimpArgs false

/-! ### spec_l8Get: function 37 -/
def spec_l8Get.f (l0 : List Int) (l1 : List Int) : Option (Int) := if (l1.length : Int) = 1 then (if 0 < (l1.length : Int) then (if 0 ≤ (wrap64 ((rd l1 0) - 1)) then (if (wrap64 ((rd l1 0) - 1)) < 6 then (some (l0.getD ((wrap64 ((rd l1 0) - 1)).toNat) 0)) else (none)) else (none)) else (none)) else (if (l1.length : Int) = 2 then (if 0 < (l1.length : Int) then (if 1 < (l1.length : Int) then (if 0 ≤ (wrap64 ((rd l1 0) - 1)) then (if (wrap64 ((rd l1 0) - 1)) < 6 then (if 0 ≤ (wrap64 ((rd l1 1) - 1)) then (if (wrap64 ((rd l1 1) - 1)) < 6 then (some (l0.getD (6 + (wrap64 ((rd l1 0) - 1)).toNat * 6 + (wrap64 ((rd l1 1) - 1)).toNat) 0)) else (none)) else (none)) else (none)) else (none)) else (none)) else (none)) else (if (l1.length : Int) = 3 then (if 0 < (l1.length : Int) then (if 1 < (l1.length : Int) then (if 2 < (l1.length : Int) then (if 0 ≤ (wrap64 ((rd l1 0) - 1)) then (if (wrap64 ((rd l1 0) - 1)) < 6 then (if 0 ≤ (wrap64 ((rd l1 1) - 1)) then (if (wrap64 ((rd l1 1) - 1)) < 6 then (if 0 ≤ (wrap64 ((rd l1 2) - 1)) then (if (wrap64 ((rd l1 2) - 1)) < 6 then (some (l0.getD (42 + (wrap64 ((rd l1 0) - 1)).toNat * 36 + (wrap64 ((rd l1 1) - 1)).toNat * 6 + (wrap64 ((rd l1 2) - 1)).toNat) 0)) else (none)) else (none)) else (none)) else (none)) else (none)) else (none)) else (none)) else (none)) else (none)) else (some 1)))
set_option maxHeartbeats 8000000 in
set_option maxRecDepth 100000 in
theorem spec_l8Get.calls (l0 : List Int) (A1 : Option Addr) (c1 : Nat) (l1 : List Int) (r : Int) (w : World) (hl0 : l0.length = 258) (hr1 : Kd.C (Kd.int .i64) w A1 l1.length l1) (hc1 : l1.length ≤ c1) (h : spec_l8Get.f l0 l1 = some r) :
    Calls Try.prog 37 #[.agg (ics l0), .slice A1 l1.length c1] w fun e w' => e = .returned (.int .i64 r) ∧ Below w.heap.size w w' := by
  have HL0 := Aside0.mk hl0
  clear hl0
  have HR1 := Aside0.mk hr1
  have HC1 := Aside0.mk hc1
  clear hr1 hc1
  have hu22 := Try.underlying22
  have hu41 := Try.underlying41
  have hu42 := Try.underlying42
  have hu43 := Try.underlying43
  have hu45 := Try.underlying45
  have HM := Aside0.mk (MS.start w)
  have H : (if (l1.length : Int) = 1 then (if 0 < (l1.length : Int) then (if 0 ≤ (wrap64 ((rd l1 0) - 1)) then (if (wrap64 ((rd l1 0) - 1)) < 6 then (some (l0.getD ((wrap64 ((rd l1 0) - 1)).toNat) 0)) else (none)) else (none)) else (none)) else (if (l1.length : Int) = 2 then (if 0 < (l1.length : Int) then (if 1 < (l1.length : Int) then (if 0 ≤ (wrap64 ((rd l1 0) - 1)) then (if (wrap64 ((rd l1 0) - 1)) < 6 then (if 0 ≤ (wrap64 ((rd l1 1) - 1)) then (if (wrap64 ((rd l1 1) - 1)) < 6 then (some (l0.getD (6 + (wrap64 ((rd l1 0) - 1)).toNat * 6 + (wrap64 ((rd l1 1) - 1)).toNat) 0)) else (none)) else (none)) else (none)) else (none)) else (none)) else (none)) else (if (l1.length : Int) = 3 then (if 0 < (l1.length : Int) then (if 1 < (l1.length : Int) then (if 2 < (l1.length : Int) then (if 0 ≤ (wrap64 ((rd l1 0) - 1)) then (if (wrap64 ((rd l1 0) - 1)) < 6 then (if 0 ≤ (wrap64 ((rd l1 1) - 1)) then (if (wrap64 ((rd l1 1) - 1)) < 6 then (if 0 ≤ (wrap64 ((rd l1 2) - 1)) then (if (wrap64 ((rd l1 2) - 1)) < 6 then (some (l0.getD (42 + (wrap64 ((rd l1 0) - 1)).toNat * 36 + (wrap64 ((rd l1 1) - 1)).toNat * 6 + (wrap64 ((rd l1 2) - 1)).toNat) 0)) else (none)) else (none)) else (none)) else (none)) else (none)) else (none)) else (none)) else (none)) else (none)) else (some 1)))) = some r := h
  clear h
  by_cases c1_ : (l1.length : Int) = 1
  · rw [if_pos c1_] at H
    have c1_b0 : ((l1.length : Int) == 1) = true := beq_iff_eq.mpr c1_
    have c1_b1 : ((l1.length : Int) != 1) = false := bne_eq_false_iff_eq.mpr c1_
    clear c1_
    by_cases c2_ : 0 < (l1.length : Int)
    · rw [if_pos c2_] at H
      have c2_b0 : decide (0 < (l1.length : Int)) = true := decide_eq_true c2_
      have c2_b1 : decide (0 < l1.length) = true := decide_eq_true (by omega)
      clear c2_
      obtain ⟨ji3_, hji3_⟩ : ∃ j_ : Int, (wrap64 ((rd l1 0) - 1)) = j_ := ⟨_, rfl⟩
      replace H : (if 0 ≤ ji3_ then (if ji3_ < 6 then (some (l0.getD (ji3_.toNat) 0)) else (none)) else (none)) = some r := by first | (rw [hji3_] at H; exact H) | (simp only [hji3_] at H ⊢; exact H)
      have hji3_w : (IntKind.i64.wrap ((rd l1 0) - 1)) = ji3_ := (i64_w _).trans hji3_
      by_cases c4_ : 0 ≤ ji3_
      · rw [if_pos c4_] at H
        have c4_b0 : decide (0 ≤ ji3_) = true := decide_eq_true c4_
        clear c4_
        by_cases c5_ : ji3_ < 6
        · rw [if_pos c5_] at H
          have c5_b0 : decide (ji3_ < 6) = true := decide_eq_true c5_
          clear c5_
          obtain rfl := Option.some.inj H
          go_enter Try.func37, Try.ntmps37
          go_wp2_with (first | ((with_reducible refine gate_dst (N := 2) rfl ?_); refine box_event ?hg (N := 2) ?hd (cs := (ics l0)) (t := 45) ?hr ?_; (case hd => rfl); (case hg => rfl); (case hr => first | (go_simp; done) | (go_simp; rfl)); intro gb1 hg w6_ hbox hb; have n_ := Aside0.mk (HM.out.addBox hb hbox hg); clear HM; have HM := n_; clear n_; clear hb hbox hg; have p128 : 0 ≤ (0 : Int) := (by omega); have q128 : (0 : Int) < (l1.length : Int) := of_decide_eq_true (by first | (with_reducible assumption) | assumption); obtain ⟨ad128, e128, hx128⟩ := Kd.at_int HR1.out 0 p128 q128; cases e128; replace hx128 := (HM.out.below.cell (World.block_lt_of_cell? w _ hx128)).trans hx128; have qn128 : (0 < l1.length) = True := eq_true (by omega); rw [show Int.toNat 0 = 0 from rfl, Addr.add_zero'] at hx128; replace p128 := eq_true p128; replace q128 := eq_true q128; have p129_0 : 0 ≤ (ji3_ : Int) := of_decide_eq_true (by first | (with_reducible assumption) | assumption); have q129_0 : (ji3_ : Int) < 6 := of_decide_eq_true (by first | (with_reducible assumption) | assumption); have o129 : ji3_.toNat < l0.length := (by have h_ : l0.length = 258 := HL0.out; rw [h_]; omega); have hx129 := xcellI (HM.out.box 0 rfl) (ji3_.toNat) o129; clear o129; replace p129_0 := eq_true p129_0; replace q129_0 := eq_true q129_0))
          go_ret
          exact ⟨by first | rfl | (simp; done) | (simp only [i64_w]; done) | (simp [i64_w]; done) | (simp only [← hji3_] <;> (first | rfl | (simp only [i64_w]; done) | simp)) | (simp [*]; done), HM.out.below⟩
        · rw [if_neg c5_] at H
          have c5_b0 : decide (ji3_ < 6) = false := decide_eq_false c5_
          clear c5_
          exact absurd H (by simp)
      · rw [if_neg c4_] at H
        have c4_b0 : decide (0 ≤ ji3_) = false := decide_eq_false c4_
        clear c4_
        exact absurd H (by simp)
    · rw [if_neg c2_] at H
      have c2_b0 : decide (0 < (l1.length : Int)) = false := decide_eq_false c2_
      have c2_b1 : decide (0 < l1.length) = false := decide_eq_false (by omega)
      clear c2_
      exact absurd H (by simp)
  · rw [if_neg c1_] at H
    have c1_b0 : ((l1.length : Int) == 1) = false := beq_eq_false_iff_ne.mpr c1_
    have c1_b1 : ((l1.length : Int) != 1) = true := bne_iff_ne.mpr c1_
    clear c1_
    by_cases c7_ : (l1.length : Int) = 2
    · rw [if_pos c7_] at H
      have c7_b0 : ((l1.length : Int) == 2) = true := beq_iff_eq.mpr c7_
      have c7_b1 : ((l1.length : Int) != 2) = false := bne_eq_false_iff_eq.mpr c7_
      clear c7_
      by_cases c8_ : 0 < (l1.length : Int)
      · rw [if_pos c8_] at H
        have c8_b0 : decide (0 < (l1.length : Int)) = true := decide_eq_true c8_
        have c8_b1 : decide (0 < l1.length) = true := decide_eq_true (by omega)
        clear c8_
        by_cases c9_ : 1 < (l1.length : Int)
        · rw [if_pos c9_] at H
          have c9_b0 : decide (1 < (l1.length : Int)) = true := decide_eq_true c9_
          have c9_b1 : decide (1 < l1.length) = true := decide_eq_true (by omega)
          clear c9_
          obtain ⟨ji10_, hji10_⟩ : ∃ j_ : Int, (wrap64 ((rd l1 0) - 1)) = j_ := ⟨_, rfl⟩
          replace H : (if 0 ≤ ji10_ then (if ji10_ < 6 then (if 0 ≤ (wrap64 ((rd l1 1) - 1)) then (if (wrap64 ((rd l1 1) - 1)) < 6 then (some (l0.getD (6 + ji10_.toNat * 6 + (wrap64 ((rd l1 1) - 1)).toNat) 0)) else (none)) else (none)) else (none)) else (none)) = some r := by first | (rw [hji10_] at H; exact H) | (simp only [hji10_] at H ⊢; exact H)
          have hji10_w : (IntKind.i64.wrap ((rd l1 0) - 1)) = ji10_ := (i64_w _).trans hji10_
          by_cases c11_ : 0 ≤ ji10_
          · rw [if_pos c11_] at H
            have c11_b0 : decide (0 ≤ ji10_) = true := decide_eq_true c11_
            clear c11_
            by_cases c12_ : ji10_ < 6
            · rw [if_pos c12_] at H
              have c12_b0 : decide (ji10_ < 6) = true := decide_eq_true c12_
              clear c12_
              obtain ⟨ji13_, hji13_⟩ : ∃ j_ : Int, (wrap64 ((rd l1 1) - 1)) = j_ := ⟨_, rfl⟩
              replace H : (if 0 ≤ ji13_ then (if ji13_ < 6 then (some (l0.getD (6 + ji10_.toNat * 6 + ji13_.toNat) 0)) else (none)) else (none)) = some r := by first | (rw [hji13_] at H; exact H) | (simp only [hji13_] at H ⊢; exact H)
              have hji13_w : (IntKind.i64.wrap ((rd l1 1) - 1)) = ji13_ := (i64_w _).trans hji13_
              by_cases c14_ : 0 ≤ ji13_
              · rw [if_pos c14_] at H
                have c14_b0 : decide (0 ≤ ji13_) = true := decide_eq_true c14_
                clear c14_
                by_cases c15_ : ji13_ < 6
                · rw [if_pos c15_] at H
                  have c15_b0 : decide (ji13_ < 6) = true := decide_eq_true c15_
                  clear c15_
                  obtain rfl := Option.some.inj H
                  go_enter Try.func37, Try.ntmps37
                  go_wp2_with (first | ((with_reducible refine gate_dst (N := 2) rfl ?_); refine box_event ?hg (N := 2) ?hd (cs := (ics l0)) (t := 45) ?hr ?_; (case hd => rfl); (case hg => rfl); (case hr => first | (go_simp; done) | (go_simp; rfl)); intro gb1 hg w16_ hbox hb; have n_ := Aside0.mk (HM.out.addBox hb hbox hg); clear HM; have HM := n_; clear n_; clear hb hbox hg))
                  have p130 : 0 ≤ (0 : Int) := (by omega)
                  have q130 : (0 : Int) < (l1.length : Int) := of_decide_eq_true (by first | (with_reducible assumption) | assumption)
                  obtain ⟨ad130, e130, hx130⟩ := Kd.at_int HR1.out 0 p130 q130
                  cases e130
                  replace hx130 := (HM.out.below.cell (World.block_lt_of_cell? w _ hx130)).trans hx130
                  have qn130 : (0 < l1.length) = True := eq_true (by omega)
                  rw [show Int.toNat 0 = 0 from rfl, Addr.add_zero'] at hx130
                  replace p130 := eq_true p130
                  replace q130 := eq_true q130
                  have p131 : 0 ≤ (1 : Int) := (by omega)
                  have q131 : (1 : Int) < (l1.length : Int) := of_decide_eq_true (by first | (with_reducible assumption) | assumption)
                  obtain ⟨ad131, e131, hx131⟩ := Kd.at_int HR1.out 1 p131 q131
                  obtain rfl : ad130 = ad131 := (by injection e131)
                  replace hx131 := (HM.out.below.cell (World.block_lt_of_cell? w _ hx131)).trans hx131
                  have qn131 : (1 < l1.length) = True := eq_true (by omega)
                  replace hx131 := (show w16_.cell? ⟨ad130.block, ad130.off + 1, none⟩ = _ from hx131)
                  replace p131 := eq_true p131
                  replace q131 := eq_true q131
                  have p132_0 : 0 ≤ (ji10_ : Int) := of_decide_eq_true (by first | (with_reducible assumption) | assumption)
                  have q132_0 : (ji10_ : Int) < 6 := of_decide_eq_true (by first | (with_reducible assumption) | assumption)
                  have p132_1 : 0 ≤ (ji13_ : Int) := of_decide_eq_true (by first | (with_reducible assumption) | assumption)
                  have q132_1 : (ji13_ : Int) < 6 := of_decide_eq_true (by first | (with_reducible assumption) | assumption)
                  have o132 : 6 + ji10_.toNat * 6 + ji13_.toNat < l0.length := (by have h_ : l0.length = 258 := HL0.out; rw [h_]; omega)
                  have hx132 := xcellI (HM.out.box 0 rfl) (6 + ji10_.toNat * 6 + ji13_.toNat) o132
                  clear o132
                  replace p132_0 := eq_true p132_0
                  replace q132_0 := eq_true q132_0
                  replace p132_1 := eq_true p132_1
                  replace q132_1 := eq_true q132_1
                  go_quiet (fail)
                  generalize hw : World.drewN _ _ = w17_
                  have n_ := Aside0.mk (HM.out.step (show Below _ _ w17_ from hw ▸ pw_below_drewN (Below.refl _ _) _))
                  clear HM hw
                  have HM := n_
                  clear n_
                  go_wp2
                  go_ret
                  exact ⟨by first | rfl | (simp; done) | (simp only [i64_w]; done) | (simp [i64_w]; done) | (simp only [← hji10_, ← hji13_] <;> (first | rfl | (simp only [i64_w]; done) | simp)) | (simp [*]; done), HM.out.below⟩
                · rw [if_neg c15_] at H
                  have c15_b0 : decide (ji13_ < 6) = false := decide_eq_false c15_
                  clear c15_
                  exact absurd H (by simp)
              · rw [if_neg c14_] at H
                have c14_b0 : decide (0 ≤ ji13_) = false := decide_eq_false c14_
                clear c14_
                exact absurd H (by simp)
            · rw [if_neg c12_] at H
              have c12_b0 : decide (ji10_ < 6) = false := decide_eq_false c12_
              clear c12_
              exact absurd H (by simp)
          · rw [if_neg c11_] at H
            have c11_b0 : decide (0 ≤ ji10_) = false := decide_eq_false c11_
            clear c11_
            exact absurd H (by simp)
        · rw [if_neg c9_] at H
          have c9_b0 : decide (1 < (l1.length : Int)) = false := decide_eq_false c9_
          have c9_b1 : decide (1 < l1.length) = false := decide_eq_false (by omega)
          clear c9_
          exact absurd H (by simp)
      · rw [if_neg c8_] at H
        have c8_b0 : decide (0 < (l1.length : Int)) = false := decide_eq_false c8_
        have c8_b1 : decide (0 < l1.length) = false := decide_eq_false (by omega)
        clear c8_
        exact absurd H (by simp)
    · rw [if_neg c7_] at H
      have c7_b0 : ((l1.length : Int) == 2) = false := beq_eq_false_iff_ne.mpr c7_
      have c7_b1 : ((l1.length : Int) != 2) = true := bne_iff_ne.mpr c7_
      clear c7_
      by_cases c18_ : (l1.length : Int) = 3
      · rw [if_pos c18_] at H
        have c18_b0 : ((l1.length : Int) == 3) = true := beq_iff_eq.mpr c18_
        have c18_b1 : ((l1.length : Int) != 3) = false := bne_eq_false_iff_eq.mpr c18_
        clear c18_
        by_cases c19_ : 0 < (l1.length : Int)
        · rw [if_pos c19_] at H
          have c19_b0 : decide (0 < (l1.length : Int)) = true := decide_eq_true c19_
          have c19_b1 : decide (0 < l1.length) = true := decide_eq_true (by omega)
          clear c19_
          by_cases c20_ : 1 < (l1.length : Int)
          · rw [if_pos c20_] at H
            have c20_b0 : decide (1 < (l1.length : Int)) = true := decide_eq_true c20_
            have c20_b1 : decide (1 < l1.length) = true := decide_eq_true (by omega)
            clear c20_
            by_cases c21_ : 2 < (l1.length : Int)
            · rw [if_pos c21_] at H
              have c21_b0 : decide (2 < (l1.length : Int)) = true := decide_eq_true c21_
              have c21_b1 : decide (2 < l1.length) = true := decide_eq_true (by omega)
              clear c21_
              obtain ⟨ji22_, hji22_⟩ : ∃ j_ : Int, (wrap64 ((rd l1 0) - 1)) = j_ := ⟨_, rfl⟩
              replace H : (if 0 ≤ ji22_ then (if ji22_ < 6 then (if 0 ≤ (wrap64 ((rd l1 1) - 1)) then (if (wrap64 ((rd l1 1) - 1)) < 6 then (if 0 ≤ (wrap64 ((rd l1 2) - 1)) then (if (wrap64 ((rd l1 2) - 1)) < 6 then (some (l0.getD (42 + ji22_.toNat * 36 + (wrap64 ((rd l1 1) - 1)).toNat * 6 + (wrap64 ((rd l1 2) - 1)).toNat) 0)) else (none)) else (none)) else (none)) else (none)) else (none)) else (none)) = some r := by first | (rw [hji22_] at H; exact H) | (simp only [hji22_] at H ⊢; exact H)
              have hji22_w : (IntKind.i64.wrap ((rd l1 0) - 1)) = ji22_ := (i64_w _).trans hji22_
              by_cases c23_ : 0 ≤ ji22_
              · rw [if_pos c23_] at H
                have c23_b0 : decide (0 ≤ ji22_) = true := decide_eq_true c23_
                clear c23_
                by_cases c24_ : ji22_ < 6
                · rw [if_pos c24_] at H
                  have c24_b0 : decide (ji22_ < 6) = true := decide_eq_true c24_
                  clear c24_
                  obtain ⟨ji25_, hji25_⟩ : ∃ j_ : Int, (wrap64 ((rd l1 1) - 1)) = j_ := ⟨_, rfl⟩
                  replace H : (if 0 ≤ ji25_ then (if ji25_ < 6 then (if 0 ≤ (wrap64 ((rd l1 2) - 1)) then (if (wrap64 ((rd l1 2) - 1)) < 6 then (some (l0.getD (42 + ji22_.toNat * 36 + ji25_.toNat * 6 + (wrap64 ((rd l1 2) - 1)).toNat) 0)) else (none)) else (none)) else (none)) else (none)) = some r := by first | (rw [hji25_] at H; exact H) | (simp only [hji25_] at H ⊢; exact H)
                  have hji25_w : (IntKind.i64.wrap ((rd l1 1) - 1)) = ji25_ := (i64_w _).trans hji25_
                  by_cases c26_ : 0 ≤ ji25_
                  · rw [if_pos c26_] at H
                    have c26_b0 : decide (0 ≤ ji25_) = true := decide_eq_true c26_
                    clear c26_
                    by_cases c27_ : ji25_ < 6
                    · rw [if_pos c27_] at H
                      have c27_b0 : decide (ji25_ < 6) = true := decide_eq_true c27_
                      clear c27_
                      obtain ⟨ji28_, hji28_⟩ : ∃ j_ : Int, (wrap64 ((rd l1 2) - 1)) = j_ := ⟨_, rfl⟩
                      replace H : (if 0 ≤ ji28_ then (if ji28_ < 6 then (some (l0.getD (42 + ji22_.toNat * 36 + ji25_.toNat * 6 + ji28_.toNat) 0)) else (none)) else (none)) = some r := by first | (rw [hji28_] at H; exact H) | (simp only [hji28_] at H ⊢; exact H)
                      have hji28_w : (IntKind.i64.wrap ((rd l1 2) - 1)) = ji28_ := (i64_w _).trans hji28_
                      by_cases c29_ : 0 ≤ ji28_
                      · rw [if_pos c29_] at H
                        have c29_b0 : decide (0 ≤ ji28_) = true := decide_eq_true c29_
                        clear c29_
                        by_cases c30_ : ji28_ < 6
                        · rw [if_pos c30_] at H
                          have c30_b0 : decide (ji28_ < 6) = true := decide_eq_true c30_
                          clear c30_
                          obtain rfl := Option.some.inj H
                          go_enter Try.func37, Try.ntmps37
                          go_wp2_with (first | ((with_reducible refine gate_dst (N := 2) rfl ?_); refine box_event ?hg (N := 2) ?hd (cs := (ics l0)) (t := 45) ?hr ?_; (case hd => rfl); (case hg => rfl); (case hr => first | (go_simp; done) | (go_simp; rfl)); intro gb1 hg w31_ hbox hb; have n_ := Aside0.mk (HM.out.addBox hb hbox hg); clear HM; have HM := n_; clear n_; clear hb hbox hg))
                          have p133 : 0 ≤ (0 : Int) := (by omega)
                          have q133 : (0 : Int) < (l1.length : Int) := of_decide_eq_true (by first | (with_reducible assumption) | assumption)
                          obtain ⟨ad133, e133, hx133⟩ := Kd.at_int HR1.out 0 p133 q133
                          cases e133
                          replace hx133 := (HM.out.below.cell (World.block_lt_of_cell? w _ hx133)).trans hx133
                          have qn133 : (0 < l1.length) = True := eq_true (by omega)
                          rw [show Int.toNat 0 = 0 from rfl, Addr.add_zero'] at hx133
                          replace p133 := eq_true p133
                          replace q133 := eq_true q133
                          have p134 : 0 ≤ (1 : Int) := (by omega)
                          have q134 : (1 : Int) < (l1.length : Int) := of_decide_eq_true (by first | (with_reducible assumption) | assumption)
                          obtain ⟨ad134, e134, hx134⟩ := Kd.at_int HR1.out 1 p134 q134
                          obtain rfl : ad133 = ad134 := (by injection e134)
                          replace hx134 := (HM.out.below.cell (World.block_lt_of_cell? w _ hx134)).trans hx134
                          have qn134 : (1 < l1.length) = True := eq_true (by omega)
                          replace hx134 := (show w31_.cell? ⟨ad133.block, ad133.off + 1, none⟩ = _ from hx134)
                          replace p134 := eq_true p134
                          replace q134 := eq_true q134
                          have p135 : 0 ≤ (2 : Int) := (by omega)
                          have q135 : (2 : Int) < (l1.length : Int) := of_decide_eq_true (by first | (with_reducible assumption) | assumption)
                          obtain ⟨ad135, e135, hx135⟩ := Kd.at_int HR1.out 2 p135 q135
                          obtain rfl : ad133 = ad135 := (by injection e135)
                          replace hx135 := (HM.out.below.cell (World.block_lt_of_cell? w _ hx135)).trans hx135
                          have qn135 : (2 < l1.length) = True := eq_true (by omega)
                          replace hx135 := (show w31_.cell? ⟨ad133.block, ad133.off + 2, none⟩ = _ from hx135)
                          replace p135 := eq_true p135
                          replace q135 := eq_true q135
                          have p136_0 : 0 ≤ (ji22_ : Int) := of_decide_eq_true (by first | (with_reducible assumption) | assumption)
                          have q136_0 : (ji22_ : Int) < 6 := of_decide_eq_true (by first | (with_reducible assumption) | assumption)
                          have p136_1 : 0 ≤ (ji25_ : Int) := of_decide_eq_true (by first | (with_reducible assumption) | assumption)
                          have q136_1 : (ji25_ : Int) < 6 := of_decide_eq_true (by first | (with_reducible assumption) | assumption)
                          have p136_2 : 0 ≤ (ji28_ : Int) := of_decide_eq_true (by first | (with_reducible assumption) | assumption)
                          have q136_2 : (ji28_ : Int) < 6 := of_decide_eq_true (by first | (with_reducible assumption) | assumption)
                          have o136 : 42 + ji22_.toNat * 36 + ji25_.toNat * 6 + ji28_.toNat < l0.length := (by have h_ : l0.length = 258 := HL0.out; rw [h_]; omega)
                          have hx136 := xcellI (HM.out.box 0 rfl) (42 + ji22_.toNat * 36 + ji25_.toNat * 6 + ji28_.toNat) o136
                          clear o136
                          replace p136_0 := eq_true p136_0
                          replace q136_0 := eq_true q136_0
                          replace p136_1 := eq_true p136_1
                          replace q136_1 := eq_true q136_1
                          replace p136_2 := eq_true p136_2
                          replace q136_2 := eq_true q136_2
                          go_quiet (fail)
                          generalize hw : World.drewN _ _ = w32_
                          have n_ := Aside0.mk (HM.out.step (show Below _ _ w32_ from hw ▸ pw_below_drewN (Below.refl _ _) _))
                          clear HM hw
                          have HM := n_
                          clear n_
                          go_wp2
                          go_ret
                          exact ⟨by first | rfl | (simp; done) | (simp only [i64_w]; done) | (simp [i64_w]; done) | (simp only [← hji22_, ← hji25_, ← hji28_] <;> (first | rfl | (simp only [i64_w]; done) | simp)) | (simp [*]; done), HM.out.below⟩
                        · rw [if_neg c30_] at H
                          have c30_b0 : decide (ji28_ < 6) = false := decide_eq_false c30_
                          clear c30_
                          exact absurd H (by simp)
                      · rw [if_neg c29_] at H
                        have c29_b0 : decide (0 ≤ ji28_) = false := decide_eq_false c29_
                        clear c29_
                        exact absurd H (by simp)
                    · rw [if_neg c27_] at H
                      have c27_b0 : decide (ji25_ < 6) = false := decide_eq_false c27_
                      clear c27_
                      exact absurd H (by simp)
                  · rw [if_neg c26_] at H
                    have c26_b0 : decide (0 ≤ ji25_) = false := decide_eq_false c26_
                    clear c26_
                    exact absurd H (by simp)
                · rw [if_neg c24_] at H
                  have c24_b0 : decide (ji22_ < 6) = false := decide_eq_false c24_
                  clear c24_
                  exact absurd H (by simp)
              · rw [if_neg c23_] at H
                have c23_b0 : decide (0 ≤ ji22_) = false := decide_eq_false c23_
                clear c23_
                exact absurd H (by simp)
            · rw [if_neg c21_] at H
              have c21_b0 : decide (2 < (l1.length : Int)) = false := decide_eq_false c21_
              have c21_b1 : decide (2 < l1.length) = false := decide_eq_false (by omega)
              clear c21_
              exact absurd H (by simp)
          · rw [if_neg c20_] at H
            have c20_b0 : decide (1 < (l1.length : Int)) = false := decide_eq_false c20_
            have c20_b1 : decide (1 < l1.length) = false := decide_eq_false (by omega)
            clear c20_
            exact absurd H (by simp)
        · rw [if_neg c19_] at H
          have c19_b0 : decide (0 < (l1.length : Int)) = false := decide_eq_false c19_
          have c19_b1 : decide (0 < l1.length) = false := decide_eq_false (by omega)
          clear c19_
          exact absurd H (by simp)
      · rw [if_neg c18_] at H
        have c18_b0 : ((l1.length : Int) == 3) = false := beq_eq_false_iff_ne.mpr c18_
        have c18_b1 : ((l1.length : Int) != 3) = true := bne_iff_ne.mpr c18_
        clear c18_
        obtain rfl := Option.some.inj H
        go_enter Try.func37, Try.ntmps37
        go_wp2_with (first | ((with_reducible refine gate_dst (N := 2) rfl ?_); refine box_event ?hg (N := 2) ?hd (cs := (ics l0)) (t := 45) ?hr ?_; (case hd => rfl); (case hg => rfl); (case hr => first | (go_simp; done) | (go_simp; rfl)); intro gb1 hg w33_ hbox hb; have n_ := Aside0.mk (HM.out.addBox hb hbox hg); clear HM; have HM := n_; clear n_; clear hb hbox hg))
        go_ret
        exact ⟨by first | rfl | (simp; done) | (simp only [i64_w]; done) | (simp [i64_w]; done) | (simp [*]; done), HM.out.below⟩

end Go.Proofs.Ytblhjcdfccggfaa.Q
