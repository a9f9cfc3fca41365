-- Written by a program of this session's own (wip/wgen.py): what functions of the program compute, and that they do.
import Derived.Below
import Derived.Deep.Draws
import Derived.Deep.AppendLies
import Derived.Maps.AppendAt
import Derived.OwnWalk
import Derived.Laws.BytesArg
import Derived.Laws.MakeOwn
import Derived.Laws.OwnMore
import Derived.Deep.OwnRows
import Derived.Tactics
import Derived.Lib.ConvBytes
import Derived.Laws.Slices
import Derived.WalkKit
import Derived.KernelRfl
import Derived.RowKit3
import Derived.Deep.LoopGhost
import Derived.Deep.QuietTactic
import Derived.BigQuiet
import Derived.WideLaws
import Derived.Deep.DeepCutAuto
import Derived.Deep.CutBlock
import Derived.Deep.RegionHeld3
import Derived.Laws.Rows
import Derived.Lib.AppendStr
import Derived.ArgAppend
import Derived.Laws.IdiomCopy
import Derived.OrdersHeld
import Derived.Laws.BitsLemmas
import Derived.RowKit
import Derived.Lib.SliceRun
import Derived.Test.YtblhjcdfccggfaaHM
import Derived.Test.YtblhjcdfccggfaaRG
import Derived.Test.YtblhjcdfccggfaaProg
import Derived.Test.YtblhjcdfccggfaaK1
import Derived.Test.YtblhjcdfccggfaaK2
import Derived.Test.YtblhjcdfccggfaaKL1
import Derived.Test.YtblhjcdfccggfaaQI
import Derived.Test.YtblhjcdfccggfaaQA
import Derived.Test.YtblhjcdfccggfaaCO
import Derived.Test.YtblhjcdfccggfaaQL
namespace Go.Proofs.Ytblhjcdfccggfaa.Q
open Go.RowKit Go.Proofs.YtblhjcdfccggfaaW.PrintWords Go.Proofs.YtblhjcdfccggfaaW.PrintLast Go.Proofs.YtblhjcdfccggfaaW.PrintMore Go.Proofs.YtblhjcdfccggfaaM Go.Proofs.Ytblhjcdfccggfaa.K Go.Proofs.Ytblhjcdfccggfaa.KL
attribute [local go_sem] max2_int min2_int max_two min_two max_three min_three max_four min_four
set_option linter.unusedVariables false
set_option linter.unusedSimpArgs false

/-! ### impl_isNail: function 41 -/
def impl_isNail.f (a0 : Int) : Option (Bool) := if a0 ≥ 1 then (some (decide (a0 ≤ 6))) else (some false)
set_option maxHeartbeats 8000000 in
set_option maxRecDepth 100000 in
theorem impl_isNail.calls (a0 : Int) (r : Bool) (w : World)  (h : impl_isNail.f a0 = some r) :
    Calls Try.prog 41 #[.int .i64 a0] w fun e w' => e = .returned (.bool r) ∧ Drawn0 w w' := by
  have HM := Aside0.mk (MS.start w)
  have HD := Aside0.mk (Drawn0.refl w)
  have H : (if a0 ≥ 1 then (some (decide (a0 ≤ 6))) else (some false)) = some r := h
  clear h
  by_cases c1_ : a0 ≥ 1
  · rw [if_pos c1_] at H
    have KNc1_ := Aside0.mk c1_
    have c1_b0 : decide (1 ≤ a0) = true := decide_eq_true c1_
    clear c1_
    obtain rfl := Option.some.inj H
    go_enter Try.func41, Try.ntmps41
    go_wp2
    go_ret
    exact ⟨by first | rfl | (simp; done) | (simp only [i64_w]; done) | (simp [i64_w]; done) | (simp [*]; done), HD.out⟩
  · rw [if_neg c1_] at H
    have KNc1_ := Aside0.mk c1_
    have c1_b0 : decide (1 ≤ a0) = false := decide_eq_false c1_
    clear c1_
    obtain rfl := Option.some.inj H
    go_enter Try.func41, Try.ntmps41
    go_wp2
    go_ret
    exact ⟨by first | rfl | (simp; done) | (simp only [i64_w]; done) | (simp [i64_w]; done) | (simp [*]; done), HD.out⟩

/-! ### impl_CoefficientOf_1: function 40 -/
def impl_CoefficientOf_1.f (a0 : Int) : Option (Bool) := (impl_isNail.f a0).bind fun t101 => (some (!t101))
set_option maxHeartbeats 8000000 in
set_option maxRecDepth 100000 in
theorem impl_CoefficientOf_1.calls (a0 : Int) (r : Bool) (w : World)  (h : impl_CoefficientOf_1.f a0 = some r) :
    Calls Try.prog 40 #[.int .i64 a0] w fun e w' => e = .returned (.bool r) ∧ Drawn0 w w' := by
  have HM := Aside0.mk (MS.start w)
  have HD := Aside0.mk (Drawn0.refl w)
  have H : ((impl_isNail.f a0).bind fun t101 => (some (!t101))) = some r := h
  clear h
  replace H := Option.bind_eq_some_iff.mp H
  obtain ⟨t101, A1_0, H⟩ := H
  replace H : (some (!t101)) = some r := H
  have A1_ := Aside0.mk A1_0
  clear A1_0
  obtain rfl := Option.some.inj H
  go_enter Try.func40, Try.ntmps40
  go_wp2_with (first | ((with_reducible refine gate_callee (f := 41) rfl ?_); (with_reducible refine gate_dst (N := 4) rfl ?_); refine goesL_ (some 4) rfl rfl Try.func41 (by kernel_rfl) rfl #[.int .i64 a0] rfl (by (try simp only [List.map_toArray, List.map_cons, List.map_nil]); first | done | rfl | (simp only [List.length_drop, List.length_take]; rfl)) ?_; (with_reducible refine (impl_isNail.calls a0 t101 _  A1_.out).mono ?_); rintro e_ w2_ ⟨rfl, hd_⟩; refine ⟨_, rfl, ?_⟩; have hb := hd_.below; have nd_ := Aside0.mk (HD.out.trans hd_); clear HD; have HD := nd_; clear nd_; clear hd_; have n_ := Aside0.mk (HM.out.step hb); clear HM; have HM := n_; clear n_; clear hb))
  go_ret
  exact ⟨by first | rfl | (simp; done) | (simp only [i64_w]; done) | (simp [i64_w]; done) | (simp [*]; done), HD.out⟩

/-! ### impl_CoefficientOf: function 19 -/
def impl_CoefficientOf.f (k : Nat) (l0 : List Int) (l1 : List Int) : Option (Int × Bool) := (impl_isWord.f k l0).bind fun t102 => (if t102 = true then (if (l1.length : Int) > 3 then (some (0, false)) else ((slices_ContainsFunc_int_int.f k l1 (fun x_ => impl_CoefficientOf_1.f x_)).bind fun t104 => (if t104 = true then (some (0, false)) else ((impl_coefficientsOf.f k l0).bind fun t105 => ((impl_coefficients_of.f k t105 l1).bind fun t106 => (some (t106, true))))))) else (some (0, false)))
set_option maxHeartbeats 8000000 in
set_option maxRecDepth 100000 in
theorem impl_CoefficientOf.calls (k : Nat) (A0 : Option Addr) (c0 : Nat) (l0 : List Int) (A1 : Option Addr) (c1 : Nat) (l1 : List Int) (r1 : Int) (r2 : Bool) (w : World) (hr0 : Kd.C (Kd.int .i64) w A0 l0.length l0) (hc0 : l0.length ≤ c0) (hr1 : Kd.C (Kd.int .i64) w A1 l1.length l1) (hc1 : l1.length ≤ c1) (h : impl_CoefficientOf.f k l0 l1 = some (r1, r2)) :
    Calls Try.prog 19 #[.slice A0 l0.length c0, .slice A1 l1.length c1] w fun e w' => e = .returned (.tuple #[.int .i64 r1, .bool r2]) ∧ Below w.heap.size w w' := by
  have HR0 := Aside0.mk hr0
  have HC0 := Aside0.mk hc0
  clear hr0 hc0
  have HR1 := Aside0.mk hr1
  have HC1 := Aside0.mk hc1
  clear hr1 hc1
  have HM := Aside0.mk (MS.start w)
  have H : ((impl_isWord.f k l0).bind fun t102 => (if t102 = true then (if (l1.length : Int) > 3 then (some (0, false)) else ((slices_ContainsFunc_int_int.f k l1 (fun x_ => impl_CoefficientOf_1.f x_)).bind fun t104 => (if t104 = true then (some (0, false)) else ((impl_coefficientsOf.f k l0).bind fun t105 => ((impl_coefficients_of.f k t105 l1).bind fun t106 => (some (t106, true))))))) else (some (0, false)))) = some (r1, r2) := h
  clear h
  replace H := Option.bind_eq_some_iff.mp H
  obtain ⟨t102, A1_0, H⟩ := H
  replace H : (if t102 = true then (if (l1.length : Int) > 3 then (some (0, false)) else ((slices_ContainsFunc_int_int.f k l1 (fun x_ => impl_CoefficientOf_1.f x_)).bind fun t104 => (if t104 = true then (some (0, false)) else ((impl_coefficientsOf.f k l0).bind fun t105 => ((impl_coefficients_of.f k t105 l1).bind fun t106 => (some (t106, true))))))) else (some (0, false))) = some (r1, r2) := H
  have A1_ := Aside0.mk A1_0
  clear A1_0
  by_cases c2_ : t102 = true
  · subst c2_
    have H1 : (if (l1.length : Int) > 3 then (some (0, false)) else ((slices_ContainsFunc_int_int.f k l1 (fun x_ => impl_CoefficientOf_1.f x_)).bind fun t104 => (if t104 = true then (some (0, false)) else ((impl_coefficientsOf.f k l0).bind fun t105 => ((impl_coefficients_of.f k t105 l1).bind fun t106 => (some (t106, true))))))) = some (r1, r2) := by rw [if_pos rfl] at H; exact H
    clear H
    have H := H1
    clear H1
    by_cases c3_ : (l1.length : Int) > 3
    · rw [if_pos c3_] at H
      have c3_b0 : decide (3 < (l1.length : Int)) = true := decide_eq_true c3_
      have c3_b1 : decide (3 < l1.length) = true := decide_eq_true (by omega)
      clear c3_
      simp only [Option.some.injEq, Prod.mk.injEq] at H
      obtain ⟨rfl, rfl⟩ := H
      go_enter Try.func19, Try.ntmps19
      go_wp2_with (first | ((with_reducible refine gate_callee (f := 38) rfl ?_); (with_reducible refine gate_dst (N := 7) rfl ?_); refine goesL_ (some 7) rfl rfl Try.func38 (by kernel_rfl) rfl #[.slice A0 l0.length c0] rfl (by (try simp only [List.map_toArray, List.map_cons, List.map_nil]); first | done | rfl | (simp only [List.length_drop, List.length_take]; rfl)) ?_; (with_reducible refine (impl_isWord.calls k _ _ l0 true _ ?sd0 ?sd1 A1_.out).mono ?_); (case sd0 => exact (Kd.C_below HR0.out HM.out.below)); (case sd1 => exact HC0.out); rintro e_ w4_ ⟨rfl, hb⟩; refine ⟨_, rfl, ?_⟩; have n_ := Aside0.mk (HM.out.step hb); clear HM; have HM := n_; clear n_; clear hb))
      go_ret2
      exact ⟨by first | rfl | (simp; done) | (simp only [i64_w]; done) | (simp [i64_w]; done) | (simp [*]; done), HM.out.below⟩
    · rw [if_neg c3_] at H
      have c3_b0 : decide (3 < (l1.length : Int)) = false := decide_eq_false c3_
      have c3_b1 : decide (3 < l1.length) = false := decide_eq_false (by omega)
      clear c3_
      replace H := Option.bind_eq_some_iff.mp H
      obtain ⟨t104, A5_0, H⟩ := H
      replace H : (if t104 = true then (some (0, false)) else ((impl_coefficientsOf.f k l0).bind fun t105 => ((impl_coefficients_of.f k t105 l1).bind fun t106 => (some (t106, true))))) = some (r1, r2) := H
      have A5_ := Aside0.mk A5_0
      clear A5_0
      by_cases c6_ : t104 = true
      · subst c6_
        have H1 : (some (0, false)) = some (r1, r2) := by rw [if_pos rfl] at H; exact H
        clear H
        have H := H1
        clear H1
        simp only [Option.some.injEq, Prod.mk.injEq] at H
        obtain ⟨rfl, rfl⟩ := H
        go_enter Try.func19, Try.ntmps19
        go_wp2_with (first | ((with_reducible refine gate_callee (f := 38) rfl ?_); (with_reducible refine gate_dst (N := 7) rfl ?_); refine goesL_ (some 7) rfl rfl Try.func38 (by kernel_rfl) rfl #[.slice A0 l0.length c0] rfl (by (try simp only [List.map_toArray, List.map_cons, List.map_nil]); first | done | rfl | (simp only [List.length_drop, List.length_take]; rfl)) ?_; (with_reducible refine (impl_isWord.calls k _ _ l0 true _ ?sd0 ?sd1 A1_.out).mono ?_); (case sd0 => exact (Kd.C_below HR0.out HM.out.below)); (case sd1 => exact HC0.out); rintro e_ w7_ ⟨rfl, hb⟩; refine ⟨_, rfl, ?_⟩; have n_ := Aside0.mk (HM.out.step hb); clear HM; have HM := n_; clear n_; clear hb; have fv103 := Aside0.mk (show FnB Try.prog w7_ (.func (.func 40) #[] #[]) (fun x_ => impl_CoefficientOf_1.f x_) from FnB.mk Try.func40 rfl rfl (fun W_ hW_ x_ r_ hr_ => (show Calls Try.prog 40 #[.int .i64 x_] W_ _ from drawn_calls (impl_CoefficientOf_1.calls x_ r_ W_  hr_))))) | (go_at_call 39; (refine calls_of_args (args' := #[.slice A1 l1.length c1, .func (.func 40) #[] #[]]) (by first | done | rfl) ?_); (with_reducible refine (slices_ContainsFunc_int_int.calls k _ _ l1 _ (fun x_ => impl_CoefficientOf_1.f x_) true _ ?sd0 ?sd1 ?sd2 A5_.out).mono ?_); (case sd0 => exact (Kd.C_below HR1.out HM.out.below)); (case sd1 => exact HC1.out); (case sd2 => exact fv103.out); rintro e_ w8_ ⟨rfl, hb⟩; have n_ := Aside0.mk (HM.out.step hb); clear HM; have HM := n_; clear n_; clear hb))
        go_ret2
        exact ⟨by first | rfl | (simp; done) | (simp only [i64_w]; done) | (simp [i64_w]; done) | (simp [*]; done), HM.out.below⟩
      · replace c6_ := Bool.eq_false_iff.mpr c6_
        subst c6_
        have H1 : ((impl_coefficientsOf.f k l0).bind fun t105 => ((impl_coefficients_of.f k t105 l1).bind fun t106 => (some (t106, true)))) = some (r1, r2) := by rw [if_neg (show ¬ (false = true) by decide)] at H; exact H
        clear H
        have H := H1
        clear H1
        replace H := Option.bind_eq_some_iff.mp H
        obtain ⟨t105, A9_0, H⟩ := H
        replace H : ((impl_coefficients_of.f k t105 l1).bind fun t106 => (some (t106, true))) = some (r1, r2) := H
        have A9_ := Aside0.mk A9_0
        clear A9_0
        replace H := Option.bind_eq_some_iff.mp H
        obtain ⟨t106, A10_0, H⟩ := H
        replace H : (some (t106, true)) = some (r1, r2) := H
        have A10_ := Aside0.mk A10_0
        clear A10_0
        simp only [Option.some.injEq, Prod.mk.injEq] at H
        obtain ⟨rfl, rfl⟩ := H
        go_enter Try.func19, Try.ntmps19
        go_wp2_with (first | ((with_reducible refine gate_callee (f := 38) rfl ?_); (with_reducible refine gate_dst (N := 7) rfl ?_); refine goesL_ (some 7) rfl rfl Try.func38 (by kernel_rfl) rfl #[.slice A0 l0.length c0] rfl (by (try simp only [List.map_toArray, List.map_cons, List.map_nil]); first | done | rfl | (simp only [List.length_drop, List.length_take]; rfl)) ?_; (with_reducible refine (impl_isWord.calls k _ _ l0 true _ ?sd0 ?sd1 A1_.out).mono ?_); (case sd0 => exact (Kd.C_below HR0.out HM.out.below)); (case sd1 => exact HC0.out); rintro e_ w11_ ⟨rfl, hb⟩; refine ⟨_, rfl, ?_⟩; have n_ := Aside0.mk (HM.out.step hb); clear HM; have HM := n_; clear n_; clear hb; have fv103 := Aside0.mk (show FnB Try.prog w11_ (.func (.func 40) #[] #[]) (fun x_ => impl_CoefficientOf_1.f x_) from FnB.mk Try.func40 rfl rfl (fun W_ hW_ x_ r_ hr_ => (show Calls Try.prog 40 #[.int .i64 x_] W_ _ from drawn_calls (impl_CoefficientOf_1.calls x_ r_ W_  hr_))))) | (go_at_call 39; (refine calls_of_args (args' := #[.slice A1 l1.length c1, .func (.func 40) #[] #[]]) (by first | done | rfl) ?_); (with_reducible refine (slices_ContainsFunc_int_int.calls k _ _ l1 _ (fun x_ => impl_CoefficientOf_1.f x_) false _ ?sd0 ?sd1 ?sd2 A5_.out).mono ?_); (case sd0 => exact (Kd.C_below HR1.out HM.out.below)); (case sd1 => exact HC1.out); (case sd2 => exact fv103.out); rintro e_ w12_ ⟨rfl, hb⟩; have n_ := Aside0.mk (HM.out.step hb); clear HM; have HM := n_; clear n_; clear hb) | ((with_reducible refine gate_callee (f := 34) rfl ?_); (with_reducible refine gate_dst (N := 19) rfl ?_); refine goesL_ (some 19) rfl rfl Try.func34 (by kernel_rfl) rfl #[.slice A0 l0.length c0] rfl (by (try simp only [List.map_toArray, List.map_cons, List.map_nil]); first | done | rfl | (simp only [List.length_drop, List.length_take]; rfl)) ?_; (with_reducible refine (impl_coefficientsOf.calls k _ _ l0 t105 _ ?sd0 ?sd1 A9_.out).mono ?_); (case sd0 => exact (Kd.C_below HR0.out HM.out.below)); (case sd1 => exact HC0.out); rintro e_ w13_ ⟨vv0_, rfl, ho0_, hb⟩; refine ⟨_, rfl, ?_⟩; obtain ⟨hl_, gp1_, ev_, hF_⟩ := (id ho0_); subst ev_; obtain ⟨ow1, hF2_, hM_⟩ := HM.out.addRo hb hF_; have HRh1 := Aside0.mk hF2_; have HCh1 := Aside0.mk hl_; have n_ := Aside0.mk hM_; clear HM hF_ hF2_ hl_ hM_; have HM := n_; clear n_; clear hb ho0_) | ((with_reducible refine gate_callee (f := 42) rfl ?_); (with_reducible refine gate_dst (N := 21) rfl ?_); refine goesL_ (some 21) rfl rfl Try.func42 (by kernel_rfl) rfl #[.pointer (some ⟨gp1_, 0, none⟩), .slice A1 l1.length c1] rfl (by (try simp only [List.map_toArray, List.map_cons, List.map_nil]); first | done | rfl | (simp only [List.length_drop, List.length_take]; rfl)) ?_; (with_reducible refine (impl_coefficients_of.calls k _ t105 _ _ l1 t106 _ ?sd0 ?sd1 ?sd2 ?sd3 A10_.out).mono ?_); (case sd0 => exact (HM.out.heldC 0 rfl HRh1.out)); (case sd1 => exact HCh1.out); (case sd2 => exact (Kd.C_below HR1.out HM.out.below)); (case sd3 => exact HC1.out); rintro e_ w14_ ⟨rfl, hd_⟩; refine ⟨_, rfl, ?_⟩; have hb := hd_.below; clear hd_; have n_ := Aside0.mk (HM.out.step hb); clear HM; have HM := n_; clear n_; clear hb))
        go_ret2
        exact ⟨by first | rfl | (simp; done) | (simp only [i64_w]; done) | (simp [i64_w]; done) | (simp [*]; done), HM.out.below⟩
  · replace c2_ := Bool.eq_false_iff.mpr c2_
    subst c2_
    have H1 : (some (0, false)) = some (r1, r2) := by rw [if_neg (show ¬ (false = true) by decide)] at H; exact H
    clear H
    have H := H1
    clear H1
    simp only [Option.some.injEq, Prod.mk.injEq] at H
    obtain ⟨rfl, rfl⟩ := H
    go_enter Try.func19, Try.ntmps19
    go_wp2_with (first | ((with_reducible refine gate_callee (f := 38) rfl ?_); (with_reducible refine gate_dst (N := 7) rfl ?_); refine goesL_ (some 7) rfl rfl Try.func38 (by kernel_rfl) rfl #[.slice A0 l0.length c0] rfl (by (try simp only [List.map_toArray, List.map_cons, List.map_nil]); first | done | rfl | (simp only [List.length_drop, List.length_take]; rfl)) ?_; (with_reducible refine (impl_isWord.calls k _ _ l0 false _ ?sd0 ?sd1 A1_.out).mono ?_); (case sd0 => exact (Kd.C_below HR0.out HM.out.below)); (case sd1 => exact HC0.out); rintro e_ w15_ ⟨rfl, hb⟩; refine ⟨_, rfl, ?_⟩; have n_ := Aside0.mk (HM.out.step hb); clear HM; have HM := n_; clear n_; clear hb))
    go_ret2
    exact ⟨by first | rfl | (simp; done) | (simp only [i64_w]; done) | (simp [i64_w]; done) | (simp [*]; done), HM.out.below⟩

end Go.Proofs.Ytblhjcdfccggfaa.Q
