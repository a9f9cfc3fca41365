-- Written by a program of this session's own (wip/wgen.py): what functions of the program compute, and that they do.
import Derived.Below
import Derived.Deep.Draws
import Derived.Deep.AppendLies
import Derived.Maps.AppendAt
import Derived.OwnWalk
import Derived.Laws.BytesArg
import Derived.Laws.MakeOwn
import Derived.Laws.OwnMore
import Derived.Deep.OwnRows
import Derived.Tactics
import Derived.Lib.ConvBytes
import Derived.Laws.Slices
import Derived.WalkKit
import Derived.KernelRfl
import Derived.RowKit3
import Derived.Deep.LoopGhost
import Derived.Deep.QuietTactic
import Derived.BigQuiet
import Derived.WideLaws
import Derived.Deep.DeepCutAuto
import Derived.Deep.CutBlock
import Derived.Deep.RegionHeld3
import Derived.Laws.Rows
import Derived.Lib.AppendStr
import Derived.ArgAppend
import Derived.Laws.IdiomCopy
import Derived.OrdersHeld
import Derived.Laws.BitsLemmas
import Derived.RowKit
import Derived.Lib.SliceRun
import Derived.Test.YtblhjcdfccggfaaHM
import Derived.Test.YtblhjcdfccggfaaRG
import Derived.Test.YtblhjcdfccggfaaProg
import Derived.Test.YtblhjcdfccggfaaK1
import Derived.Test.YtblhjcdfccggfaaK2
import Derived.Test.YtblhjcdfccggfaaKL1
import Derived.Test.YtblhjcdfccggfaaQI
import Derived.Test.YtblhjcdfccggfaaQ8
import Derived.Test.YtblhjcdfccggfaaQ9
import Derived.Test.YtblhjcdfccggfaaQA
import Derived.Test.YtblhjcdfccggfaaCO
namespace Go.Proofs.Ytblhjcdfccggfaa.Q
open Go.RowKit Go.Proofs.YtblhjcdfccggfaaW.PrintWords Go.Proofs.YtblhjcdfccggfaaW.PrintLast Go.Proofs.YtblhjcdfccggfaaW.PrintMore Go.Proofs.YtblhjcdfccggfaaM Go.Proofs.Ytblhjcdfccggfaa.K Go.Proofs.Ytblhjcdfccggfaa.KL
attribute [local go_sem] max2_int min2_int max_two min_two max_three min_three max_four min_four
set_option linter.unusedVariables false
set_option linter.unusedSimpArgs false

/-! ### impl_isLetter: function 55 -/
def impl_isLetter.f (a0 : Int) : Option (Bool) := if a0 = 0 then (some false) else (if a0 ≥ (-6) then (some (decide (a0 ≤ 6))) else (some false))
set_option maxHeartbeats 8000000 in
set_option maxRecDepth 100000 in
theorem impl_isLetter.calls (a0 : Int) (r : Bool) (w : World)  (h : impl_isLetter.f a0 = some r) :
    Calls Try.prog 55 #[.int .i64 a0] w fun e w' => e = .returned (.bool r) ∧ Drawn0 w w' := by
  have HM := Aside0.mk (MS.start w)
  have HD := Aside0.mk (Drawn0.refl w)
  have H : (if a0 = 0 then (some false) else (if a0 ≥ (-6) then (some (decide (a0 ≤ 6))) else (some false))) = some r := h
  clear h
  by_cases c1_ : a0 = 0
  · rw [if_pos c1_] at H
    have KNc1_ := Aside0.mk c1_
    have c1_b0 : (a0 == 0) = true := beq_iff_eq.mpr c1_
    have c1_b1 : (a0 != 0) = false := bne_eq_false_iff_eq.mpr c1_
    clear c1_
    obtain rfl := Option.some.inj H
    go_enter Try.func55, Try.ntmps55
    go_wp2
    go_ret
    exact ⟨by first | rfl | (simp; done) | (simp only [i64_w]; done) | (simp [i64_w]; done) | (simp [*]; done), HD.out⟩
  · rw [if_neg c1_] at H
    have KNc1_ := Aside0.mk c1_
    have c1_b0 : (a0 == 0) = false := beq_eq_false_iff_ne.mpr c1_
    have c1_b1 : (a0 != 0) = true := bne_iff_ne.mpr c1_
    clear c1_
    by_cases c2_ : a0 ≥ (-6)
    · rw [if_pos c2_] at H
      have KNc2_ := Aside0.mk c2_
      have c2_b0 : decide ((-6) ≤ a0) = true := decide_eq_true c2_
      clear c2_
      obtain rfl := Option.some.inj H
      go_enter Try.func55, Try.ntmps55
      go_wp2
      go_ret
      exact ⟨by first | rfl | (simp; done) | (simp only [i64_w]; done) | (simp [i64_w]; done) | (simp [*]; done), HD.out⟩
    · rw [if_neg c2_] at H
      have KNc2_ := Aside0.mk c2_
      have c2_b0 : decide ((-6) ≤ a0) = false := decide_eq_false c2_
      clear c2_
      obtain rfl := Option.some.inj H
      go_enter Try.func55, Try.ntmps55
      go_wp2
      go_ret
      exact ⟨by first | rfl | (simp; done) | (simp only [i64_w]; done) | (simp [i64_w]; done) | (simp [*]; done), HD.out⟩

/-! ### impl_isWord_1: function 54 -/
def impl_isWord_1.f (a0 : Int) : Option (Bool) := (impl_isLetter.f a0).bind fun t101 => (some (!t101))
set_option maxHeartbeats 8000000 in
set_option maxRecDepth 100000 in
theorem impl_isWord_1.calls (a0 : Int) (r : Bool) (w : World)  (h : impl_isWord_1.f a0 = some r) :
    Calls Try.prog 54 #[.int .i64 a0] w fun e w' => e = .returned (.bool r) ∧ Drawn0 w w' := by
  have HM := Aside0.mk (MS.start w)
  have HD := Aside0.mk (Drawn0.refl w)
  have H : ((impl_isLetter.f a0).bind fun t101 => (some (!t101))) = some r := h
  clear h
  replace H := Option.bind_eq_some_iff.mp H
  obtain ⟨t101, A1_0, H⟩ := H
  replace H : (some (!t101)) = some r := H
  have A1_ := Aside0.mk A1_0
  clear A1_0
  obtain rfl := Option.some.inj H
  go_enter Try.func54, Try.ntmps54
  go_wp2_with (first | ((with_reducible refine gate_callee (f := 55) rfl ?_); (with_reducible refine gate_dst (N := 4) rfl ?_); refine goesL_ (some 4) rfl rfl Try.func55 (by kernel_rfl) rfl #[.int .i64 a0] rfl (by (try simp only [List.map_toArray, List.map_cons, List.map_nil]); first | done | rfl | (simp only [List.length_drop, List.length_take]; rfl)) ?_; (with_reducible refine (impl_isLetter.calls a0 t101 _  A1_.out).mono ?_); rintro e_ w2_ ⟨rfl, hd_⟩; refine ⟨_, rfl, ?_⟩; have hb := hd_.below; have nd_ := Aside0.mk (HD.out.trans hd_); clear HD; have HD := nd_; clear nd_; clear hd_; have n_ := Aside0.mk (HM.out.step hb); clear HM; have HM := n_; clear n_; clear hb))
  go_ret
  exact ⟨by first | rfl | (simp; done) | (simp only [i64_w]; done) | (simp [i64_w]; done) | (simp [*]; done), HD.out⟩

/-! ### impl_isWord: function 38 -/
def impl_isWord.f (k : Nat) (l0 : List Int) : Option (Bool) := if (l0.length : Int) ≤ 64 then ((slices_ContainsFunc_int_int.f k l0 (fun x_ => impl_isWord_1.f x_)).bind fun t103 => (some (!t103))) else (some false)
set_option maxHeartbeats 8000000 in
set_option maxRecDepth 100000 in
theorem impl_isWord.calls (k : Nat) (A0 : Option Addr) (c0 : Nat) (l0 : List Int) (r : Bool) (w : World) (hr0 : Kd.C (Kd.int .i64) w A0 l0.length l0) (hc0 : l0.length ≤ c0) (h : impl_isWord.f k l0 = some r) :
    Calls Try.prog 38 #[.slice A0 l0.length c0] w fun e w' => e = .returned (.bool r) ∧ Below w.heap.size w w' := by
  have HR0 := Aside0.mk hr0
  have HC0 := Aside0.mk hc0
  clear hr0 hc0
  have HM := Aside0.mk (MS.start w)
  have H : (if (l0.length : Int) ≤ 64 then ((slices_ContainsFunc_int_int.f k l0 (fun x_ => impl_isWord_1.f x_)).bind fun t103 => (some (!t103))) else (some false)) = some r := h
  clear h
  by_cases c1_ : (l0.length : Int) ≤ 64
  · rw [if_pos c1_] at H
    have c1_b0 : decide ((l0.length : Int) ≤ 64) = true := decide_eq_true c1_
    have c1_b1 : decide (l0.length ≤ 64) = true := decide_eq_true (by omega)
    clear c1_
    replace H := Option.bind_eq_some_iff.mp H
    obtain ⟨t103, A2_0, H⟩ := H
    replace H : (some (!t103)) = some r := H
    have A2_ := Aside0.mk A2_0
    clear A2_0
    obtain rfl := Option.some.inj H
    have fv102 := Aside0.mk (show FnB Try.prog w (.func (.func 54) #[] #[]) (fun x_ => impl_isWord_1.f x_) from FnB.mk Try.func54 rfl rfl (fun W_ hW_ x_ r_ hr_ => (show Calls Try.prog 54 #[.int .i64 x_] W_ _ from drawn_calls (impl_isWord_1.calls x_ r_ W_  hr_))))
    go_enter Try.func38, Try.ntmps38
    go_wp2_with (first | (go_at_call 39; (refine calls_of_args (args' := #[.slice A0 l0.length c0, .func (.func 54) #[] #[]]) (by first | done | rfl) ?_); (with_reducible refine (slices_ContainsFunc_int_int.calls k _ _ l0 _ (fun x_ => impl_isWord_1.f x_) t103 _ ?sd0 ?sd1 ?sd2 A2_.out).mono ?_); (case sd0 => exact (Kd.C_below HR0.out HM.out.below)); (case sd1 => exact HC0.out); (case sd2 => exact fv102.out); rintro e_ w3_ ⟨rfl, hb⟩; have n_ := Aside0.mk (HM.out.step hb); clear HM; have HM := n_; clear n_; clear hb))
    go_ret
    exact ⟨by first | rfl | (simp; done) | (simp only [i64_w]; done) | (simp [i64_w]; done) | (simp [*]; done), HM.out.below⟩
  · rw [if_neg c1_] at H
    have c1_b0 : decide ((l0.length : Int) ≤ 64) = false := decide_eq_false c1_
    have c1_b1 : decide (l0.length ≤ 64) = false := decide_eq_false (by omega)
    clear c1_
    obtain rfl := Option.some.inj H
    go_enter Try.func38, Try.ntmps38
    go_wp2
    go_ret
    exact ⟨by first | rfl | (simp; done) | (simp only [i64_w]; done) | (simp [i64_w]; done) | (simp [*]; done), HM.out.below⟩

end Go.Proofs.Ytblhjcdfccggfaa.Q
