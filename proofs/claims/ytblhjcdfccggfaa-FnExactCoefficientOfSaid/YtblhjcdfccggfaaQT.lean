-- Written by a program of this session's own (wip/wgen.py): what functions of the program compute, and that they do.
import Derived.Below
import Derived.Deep.Draws
import Derived.Deep.AppendLies
import Derived.Maps.AppendAt
import Derived.OwnWalk
import Derived.Laws.BytesArg
import Derived.Laws.MakeOwn
import Derived.Laws.OwnMore
import Derived.Deep.OwnRows
import Derived.Tactics
import Derived.Lib.ConvBytes
import Derived.Laws.Slices
import Derived.WalkKit
import Derived.KernelRfl
import Derived.RowKit3
import Derived.Deep.LoopGhost
import Derived.Deep.QuietTactic
import Derived.BigQuiet
import Derived.WideLaws
import Derived.Deep.DeepCutAuto
import Derived.Deep.CutBlock
import Derived.Deep.RegionHeld3
import Derived.Laws.Rows
import Derived.Lib.AppendStr
import Derived.ArgAppend
import Derived.Laws.IdiomCopy
import Derived.OrdersHeld
import Derived.Laws.BitsLemmas
import Derived.RowKit
import Derived.Lib.SliceRun
import Derived.Test.YtblhjcdfccggfaaHM
import Derived.Test.YtblhjcdfccggfaaRG
import Derived.Test.YtblhjcdfccggfaaProg
import Derived.Test.YtblhjcdfccggfaaK1
import Derived.Test.YtblhjcdfccggfaaK2
import Derived.Test.YtblhjcdfccggfaaKL1
import Derived.Test.YtblhjcdfccggfaaQI
import Derived.Test.YtblhjcdfccggfaaQ8
namespace Go.Proofs.Ytblhjcdfccggfaa.Q
open Go.RowKit Go.Proofs.YtblhjcdfccggfaaW.PrintWords Go.Proofs.YtblhjcdfccggfaaW.PrintLast Go.Proofs.YtblhjcdfccggfaaW.PrintMore Go.Proofs.YtblhjcdfccggfaaM Go.Proofs.Ytblhjcdfccggfaa.K Go.Proofs.Ytblhjcdfccggfaa.KL
attribute [local go_sem] max2_int min2_int max_two min_two max_three min_three max_four min_four
set_option linter.unusedVariables false
set_option linter.unusedSimpArgs false

/-! ### spec_AreaOf: function 14 -/
def spec_AreaOf.f (k : Nat) (l0 : List Int) (a1 : Int) (a2 : Int) : Option (Int × Bool) := (spec_l8Pair.f k l0 a1 a2).bind fun t101 => (if t101 = true then ((spec_l8Of.f k l0).bind fun t102 => (if 0 ≤ (wrap64 (a1 - 1)) then (if (wrap64 (a1 - 1)) < 6 then (if 0 ≤ (wrap64 (a2 - 1)) then (if (wrap64 (a2 - 1)) < 6 then (some (wrap64 ((t102.getD (6 + (wrap64 (a1 - 1)).toNat * 6 + (wrap64 (a2 - 1)).toNat) 0) - (t102.getD (6 + (wrap64 (a2 - 1)).toNat * 6 + (wrap64 (a1 - 1)).toNat) 0)), true)) else (none)) else (none)) else (none)) else (none))) else (some (0, false)))
set_option maxHeartbeats 8000000 in
set_option maxRecDepth 100000 in
theorem spec_AreaOf.calls (k : Nat) (A0 : Option Addr) (c0 : Nat) (l0 : List Int) (a1 : Int) (a2 : Int) (r1 : Int) (r2 : Bool) (w : World) (hr0 : Kd.C (Kd.int .i64) w A0 l0.length l0) (hc0 : l0.length ≤ c0) (h : spec_AreaOf.f k l0 a1 a2 = some (r1, r2)) :
    Calls Try.prog 14 #[.slice A0 l0.length c0, .int .i64 a1, .int .i64 a2] w fun e w' => e = .returned (.tuple #[.int .i64 r1, .bool r2]) ∧ Below w.heap.size w w' := by
  have HR0 := Aside0.mk hr0
  have HC0 := Aside0.mk hc0
  clear hr0 hc0
  have hu41 := Try.underlying41
  have hu42 := Try.underlying42
  have hu45 := Try.underlying45
  have HM := Aside0.mk (MS.start w)
  have H : ((spec_l8Pair.f k l0 a1 a2).bind fun t101 => (if t101 = true then ((spec_l8Of.f k l0).bind fun t102 => (if 0 ≤ (wrap64 (a1 - 1)) then (if (wrap64 (a1 - 1)) < 6 then (if 0 ≤ (wrap64 (a2 - 1)) then (if (wrap64 (a2 - 1)) < 6 then (some (wrap64 ((t102.getD (6 + (wrap64 (a1 - 1)).toNat * 6 + (wrap64 (a2 - 1)).toNat) 0) - (t102.getD (6 + (wrap64 (a2 - 1)).toNat * 6 + (wrap64 (a1 - 1)).toNat) 0)), true)) else (none)) else (none)) else (none)) else (none))) else (some (0, false)))) = some (r1, r2) := h
  clear h
  replace H := Option.bind_eq_some_iff.mp H
  obtain ⟨t101, A1_0, H⟩ := H
  replace H : (if t101 = true then ((spec_l8Of.f k l0).bind fun t102 => (if 0 ≤ (wrap64 (a1 - 1)) then (if (wrap64 (a1 - 1)) < 6 then (if 0 ≤ (wrap64 (a2 - 1)) then (if (wrap64 (a2 - 1)) < 6 then (some (wrap64 ((t102.getD (6 + (wrap64 (a1 - 1)).toNat * 6 + (wrap64 (a2 - 1)).toNat) 0) - (t102.getD (6 + (wrap64 (a2 - 1)).toNat * 6 + (wrap64 (a1 - 1)).toNat) 0)), true)) else (none)) else (none)) else (none)) else (none))) else (some (0, false))) = some (r1, r2) := H
  have A1_ := Aside0.mk A1_0
  clear A1_0
  by_cases c2_ : t101 = true
  · subst c2_
    have H1 : ((spec_l8Of.f k l0).bind fun t102 => (if 0 ≤ (wrap64 (a1 - 1)) then (if (wrap64 (a1 - 1)) < 6 then (if 0 ≤ (wrap64 (a2 - 1)) then (if (wrap64 (a2 - 1)) < 6 then (some (wrap64 ((t102.getD (6 + (wrap64 (a1 - 1)).toNat * 6 + (wrap64 (a2 - 1)).toNat) 0) - (t102.getD (6 + (wrap64 (a2 - 1)).toNat * 6 + (wrap64 (a1 - 1)).toNat) 0)), true)) else (none)) else (none)) else (none)) else (none))) = some (r1, r2) := by rw [if_pos rfl] at H; exact H
    clear H
    have H := H1
    clear H1
    replace H := Option.bind_eq_some_iff.mp H
    obtain ⟨t102, A3_0, H⟩ := H
    replace H : (if 0 ≤ (wrap64 (a1 - 1)) then (if (wrap64 (a1 - 1)) < 6 then (if 0 ≤ (wrap64 (a2 - 1)) then (if (wrap64 (a2 - 1)) < 6 then (some (wrap64 ((t102.getD (6 + (wrap64 (a1 - 1)).toNat * 6 + (wrap64 (a2 - 1)).toNat) 0) - (t102.getD (6 + (wrap64 (a2 - 1)).toNat * 6 + (wrap64 (a1 - 1)).toNat) 0)), true)) else (none)) else (none)) else (none)) else (none)) = some (r1, r2) := H
    have A3_ := Aside0.mk A3_0
    clear A3_0
    obtain ⟨ji4_, hji4_⟩ : ∃ j_ : Int, (wrap64 (a1 - 1)) = j_ := ⟨_, rfl⟩
    replace H : (if 0 ≤ ji4_ then (if ji4_ < 6 then (if 0 ≤ (wrap64 (a2 - 1)) then (if (wrap64 (a2 - 1)) < 6 then (some (wrap64 ((t102.getD (6 + ji4_.toNat * 6 + (wrap64 (a2 - 1)).toNat) 0) - (t102.getD (6 + (wrap64 (a2 - 1)).toNat * 6 + ji4_.toNat) 0)), true)) else (none)) else (none)) else (none)) else (none)) = some (r1, r2) := by first | (rw [hji4_] at H; exact H) | (simp only [hji4_] at H ⊢; exact H)
    have hji4_w : (IntKind.i64.wrap (a1 - 1)) = ji4_ := (i64_w _).trans hji4_
    (try rw [hji4_] at A1_)
    (try rw [hji4_] at A3_)
    by_cases c5_ : 0 ≤ ji4_
    · rw [if_pos c5_] at H
      have c5_b0 : decide (0 ≤ ji4_) = true := decide_eq_true c5_
      clear c5_
      by_cases c6_ : ji4_ < 6
      · rw [if_pos c6_] at H
        have c6_b0 : decide (ji4_ < 6) = true := decide_eq_true c6_
        clear c6_
        obtain ⟨ji7_, hji7_⟩ : ∃ j_ : Int, (wrap64 (a2 - 1)) = j_ := ⟨_, rfl⟩
        replace H : (if 0 ≤ ji7_ then (if ji7_ < 6 then (some (wrap64 ((t102.getD (6 + ji4_.toNat * 6 + ji7_.toNat) 0) - (t102.getD (6 + ji7_.toNat * 6 + ji4_.toNat) 0)), true)) else (none)) else (none)) = some (r1, r2) := by first | (rw [hji7_] at H; exact H) | (simp only [hji7_] at H ⊢; exact H)
        have hji7_w : (IntKind.i64.wrap (a2 - 1)) = ji7_ := (i64_w _).trans hji7_
        (try rw [hji7_] at A1_)
        (try rw [hji7_] at A3_)
        by_cases c8_ : 0 ≤ ji7_
        · rw [if_pos c8_] at H
          have c8_b0 : decide (0 ≤ ji7_) = true := decide_eq_true c8_
          clear c8_
          by_cases c9_ : ji7_ < 6
          · rw [if_pos c9_] at H
            have c9_b0 : decide (ji7_ < 6) = true := decide_eq_true c9_
            clear c9_
            simp only [Option.some.injEq, Prod.mk.injEq] at H
            obtain ⟨rfl, rfl⟩ := H
            go_enter Try.func14, Try.ntmps14
            go_wp2_with (first | ((with_reducible refine gate_callee (f := 29) rfl ?_); (with_reducible refine gate_dst (N := 12) rfl ?_); refine goesL_ (some 12) rfl rfl Try.func29 (by kernel_rfl) rfl #[.slice A0 l0.length c0, .int .i64 a1, .int .i64 a2] rfl (by (try simp only [List.map_toArray, List.map_cons, List.map_nil]); first | done | rfl | (simp only [List.length_drop, List.length_take]; rfl)) ?_; (with_reducible refine (spec_l8Pair.calls k _ _ l0 a1 a2 true _ ?sd0 ?sd1 A1_.out).mono ?_); (case sd0 => exact (Kd.C_below HR0.out HM.out.below)); (case sd1 => exact HC0.out); rintro e_ w10_ ⟨rfl, hd_⟩; refine ⟨_, rfl, ?_⟩; have hb := hd_.below; clear hd_; have n_ := Aside0.mk (HM.out.step hb); clear HM; have HM := n_; clear n_; clear hb) | ((with_reducible refine gate_callee (f := 30) rfl ?_); (with_reducible refine gate_dst (N := 15) rfl ?_); refine goesL_ (some 15) rfl rfl Try.func30 (by kernel_rfl) rfl #[.slice A0 l0.length c0] rfl (by (try simp only [List.map_toArray, List.map_cons, List.map_nil]); first | done | rfl | (simp only [List.length_drop, List.length_take]; rfl)) ?_; (with_reducible refine (spec_l8Of.calls k _ _ l0 t102 _ ?sd0 ?sd1 A3_.out).mono ?_); (case sd0 => exact (Kd.C_below HR0.out HM.out.below)); (case sd1 => exact HC0.out); rintro e_ w11_ ⟨rfl, ho0_, hb⟩; refine ⟨_, rfl, ?_⟩; have HLt102 := Aside0.mk ho0_; have n_ := Aside0.mk (HM.out.step hb); clear HM; have HM := n_; clear n_; clear hb ho0_) | ((with_reducible refine gate_dst (N := 8) rfl ?_); refine box_event ?hg (N := 8) ?hd (cs := (ics (List.replicate 258 0))) (t := 45) ?hr ?_; (case hd => rfl); (case hg => rfl); (case hr => first | (go_simp; done) | (go_simp; rfl)); intro gb1 hg w12_ hbox hb; have n_ := Aside0.mk (HM.out.addBox hb hbox hg); clear HM; have HM := n_; clear n_; clear hb hbox hg) | ((with_reducible refine gate_store (t := 45) (p := 8) rfl ?_); refine wpList_store_row rfl _ _ _ rfl gb1 (ics t102) rfl rfl 45 (ics (List.replicate 258 0)) (HM.out.box 0 rfl) (by rw [ics_size, HLt102.out]; kernel_rfl) ((ics_size _).trans (((List.length_replicate)).trans ((show _ = 258 from HLt102.out).symm.trans (ics_size _).symm))) (ics_one _) ?_; generalize hw : World.setRow _ _ _ = w13_; have n_ : Aside0 (MS w w13_ [.box gb1 45 (ics t102)]) := ⟨by rw [← hw]; exact HM.out.setRow 0 rfl _⟩; clear HM hw; have HM := n_; clear n_))
            have p103_0 : 0 ≤ (ji4_ : Int) := of_decide_eq_true (by first | (with_reducible assumption) | assumption)
            have q103_0 : (ji4_ : Int) < 6 := of_decide_eq_true (by first | (with_reducible assumption) | assumption)
            have p103_1 : 0 ≤ (ji7_ : Int) := of_decide_eq_true (by first | (with_reducible assumption) | assumption)
            have q103_1 : (ji7_ : Int) < 6 := of_decide_eq_true (by first | (with_reducible assumption) | assumption)
            have o103 : 6 + ji4_.toNat * 6 + ji7_.toNat < t102.length := (by have h_ : t102.length = 258 := HLt102.out; rw [h_]; omega)
            have hx103 := xcellI (HM.out.box 0 rfl) (6 + ji4_.toNat * 6 + ji7_.toNat) o103
            clear o103
            replace p103_0 := eq_true p103_0
            replace q103_0 := eq_true q103_0
            replace p103_1 := eq_true p103_1
            replace q103_1 := eq_true q103_1
            have p104_0 : 0 ≤ (ji7_ : Int) := of_decide_eq_true (by first | (with_reducible assumption) | assumption)
            have q104_0 : (ji7_ : Int) < 6 := of_decide_eq_true (by first | (with_reducible assumption) | assumption)
            have p104_1 : 0 ≤ (ji4_ : Int) := of_decide_eq_true (by first | (with_reducible assumption) | assumption)
            have q104_1 : (ji4_ : Int) < 6 := of_decide_eq_true (by first | (with_reducible assumption) | assumption)
            have o104 : 6 + ji7_.toNat * 6 + ji4_.toNat < t102.length := (by have h_ : t102.length = 258 := HLt102.out; rw [h_]; omega)
            have hx104 := xcellI (HM.out.box 0 rfl) (6 + ji7_.toNat * 6 + ji4_.toNat) o104
            clear o104
            replace p104_0 := eq_true p104_0
            replace q104_0 := eq_true q104_0
            replace p104_1 := eq_true p104_1
            replace q104_1 := eq_true q104_1
            go_quiet (fail)
            generalize hw : World.drewN _ _ = w14_
            have n_ := Aside0.mk (HM.out.step (show Below _ _ w14_ from hw ▸ pw_below_drewN (Below.refl _ _) _))
            clear HM hw
            have HM := n_
            clear n_
            go_wp2
            go_ret2
            exact ⟨by first | rfl | (simp; done) | (simp only [i64_w]; done) | (simp [i64_w]; done) | (simp only [← hji4_, ← hji7_] <;> (first | rfl | (simp only [i64_w]; done) | simp)) | (simp [*]; done), HM.out.below⟩
          · rw [if_neg c9_] at H
            have c9_b0 : decide (ji7_ < 6) = false := decide_eq_false c9_
            clear c9_
            exact absurd H (by simp)
        · rw [if_neg c8_] at H
          have c8_b0 : decide (0 ≤ ji7_) = false := decide_eq_false c8_
          clear c8_
          exact absurd H (by simp)
      · rw [if_neg c6_] at H
        have c6_b0 : decide (ji4_ < 6) = false := decide_eq_false c6_
        clear c6_
        exact absurd H (by simp)
    · rw [if_neg c5_] at H
      have c5_b0 : decide (0 ≤ ji4_) = false := decide_eq_false c5_
      clear c5_
      exact absurd H (by simp)
  · replace c2_ := Bool.eq_false_iff.mpr c2_
    subst c2_
    have H1 : (some (0, false)) = some (r1, r2) := by rw [if_neg (show ¬ (false = true) by decide)] at H; exact H
    clear H
    have H := H1
    clear H1
    simp only [Option.some.injEq, Prod.mk.injEq] at H
    obtain ⟨rfl, rfl⟩ := H
    go_enter Try.func14, Try.ntmps14
    go_wp2_with (first | ((with_reducible refine gate_callee (f := 29) rfl ?_); (with_reducible refine gate_dst (N := 12) rfl ?_); refine goesL_ (some 12) rfl rfl Try.func29 (by kernel_rfl) rfl #[.slice A0 l0.length c0, .int .i64 a1, .int .i64 a2] rfl (by (try simp only [List.map_toArray, List.map_cons, List.map_nil]); first | done | rfl | (simp only [List.length_drop, List.length_take]; rfl)) ?_; (with_reducible refine (spec_l8Pair.calls k _ _ l0 a1 a2 false _ ?sd0 ?sd1 A1_.out).mono ?_); (case sd0 => exact (Kd.C_below HR0.out HM.out.below)); (case sd1 => exact HC0.out); rintro e_ w15_ ⟨rfl, hd_⟩; refine ⟨_, rfl, ?_⟩; have hb := hd_.below; clear hd_; have n_ := Aside0.mk (HM.out.step hb); clear HM; have HM := n_; clear n_; clear hb))
    go_ret2
    exact ⟨by first | rfl | (simp; done) | (simp only [i64_w]; done) | (simp [i64_w]; done) | (simp [*]; done), HM.out.below⟩

end Go.Proofs.Ytblhjcdfccggfaa.Q
