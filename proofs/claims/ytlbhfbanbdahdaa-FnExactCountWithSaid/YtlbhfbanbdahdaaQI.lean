-- Written by a program of this session's own (wip/wgen.py): what functions of the program compute, and that they do.
import Derived.Below
import Derived.Deep.Draws
import Derived.Deep.AppendLies
import Derived.Maps.AppendAt
import Derived.OwnWalk
import Derived.Laws.BytesArg
import Derived.Laws.MakeOwn
import Derived.Laws.OwnMore
import Derived.Deep.OwnRows
import Derived.Tactics
import Derived.Lib.ConvBytes
import Derived.Laws.Slices
import Derived.WalkKit
import Derived.KernelRfl
import Derived.RowKit3
import Derived.Deep.LoopGhost
import Derived.Deep.QuietTactic
import Derived.BigQuiet
import Derived.WideLaws
import Derived.Deep.DeepCutAuto
import Derived.Deep.CutBlock
import Derived.Deep.RegionHeld3
import Derived.Laws.Rows
import Derived.Lib.AppendStr
import Derived.ArgAppend
import Derived.Laws.IdiomCopy
import Derived.OrdersHeld
import Derived.Laws.BitsLemmas
import Derived.RowKit
import Derived.Lib.SliceRun
import Derived.Test.YtlbhfbanbdahdaaHM
import Derived.Test.YtlbhfbanbdahdaaRG
import Derived.Test.YtlbhfbanbdahdaaProg
namespace Go.Proofs.Ytlbhfbanbdahdaa.Q
open Go.RowKit Go.Proofs.YtlbhfbanbdahdaaW.PrintWords Go.Proofs.YtlbhfbanbdahdaaW.PrintLast Go.Proofs.YtlbhfbanbdahdaaW.PrintMore Go.Proofs.YtlbhfbanbdahdaaM
attribute [local go_sem] max2_int min2_int max_two min_two max_three min_three max_four min_four
set_option linter.unusedVariables false
set_option linter.unusedSimpArgs false

/-! ### slices_IndexFunc_int_int: function 88 -/
def slices_IndexFunc_int_int.l0 : Nat → (List Int) → (Int → Option Bool) → (Int) → (Int) → Option (Int)
  | 0, _, _, _, _ => none
  | k + 1, x0, x1, x7, x8 => if x8 < x7 then (if 0 ≤ x8 then (if x8 < (x0.length : Int) then ((x1 (rd x0 x8)).bind fun t102 => (if t102 = true then (some x8) else (slices_IndexFunc_int_int.l0 k x0 x1 x7 (wrap64 (x8 + 1))))) else (none)) else (none)) else (some (-1))
def slices_IndexFunc_int_int.f (k : Nat) (l0 : List Int) (g1 : Int → Option Bool) : Option (Int) := slices_IndexFunc_int_int.l0 k l0 g1 (l0.length : Int) 0
set_option maxHeartbeats 8000000 in
set_option maxRecDepth 100000 in
theorem slices_IndexFunc_int_int.calls (k : Nat) (A0 : Option Addr) (c0 : Nat) (l0 : List Int) (F1 : Value) (g1 : Int → Option Bool) (r : Int) (w : World) (hr0 : Kd.C (Kd.int .i64) w A0 l0.length l0) (hc0 : l0.length ≤ c0) (hf1 : FnB Try.prog w F1 g1) (h : slices_IndexFunc_int_int.f k l0 g1 = some r) :
    Calls Try.prog 88 #[.slice A0 l0.length c0, F1] w fun e w' => e = .returned (.int .i64 r) ∧ Below w.heap.size w w' := by
  have HR0 := Aside0.mk hr0
  have HC0 := Aside0.mk hc0
  clear hr0 hc0
  have HF1 := Aside0.mk hf1
  clear hf1
  have hu22 := Try.underlying22
  have HM := Aside0.mk (MS.start w)
  have H : (slices_IndexFunc_int_int.l0 k l0 g1 (l0.length : Int) 0) = some r := h
  clear h
  have H' := Aside0.mk H
  clear H
  go_enter Try.func88, Try.ntmps88
  go_wp2
  go_loopg [8] k (fun kq v8 w' => ∃ (x8_1 : Int), v8 = .int .i64 x8_1 ∧ Aside0 (slices_IndexFunc_int_int.l0 kq l0 g1 (l0.length : Int) x8_1 = some r) ∧ Aside0 (kq ≤ k) ∧ Aside0 (MS w w' []))
  case atStart => exact ⟨(0), (by first | rfl | (simp; done) | (simp only [i64_w]; done) | (simp [i64_w]; done) | (simp [*]; done)), H', ⟨Nat.le_refl _⟩, HM⟩
  case round =>
    clear H'
    clear HM
    obtain ⟨x8_1, rfl, HA, HK2_, HM⟩ := hrel
    cases gk with
    | zero => exact absurd HA.out (by simp [slices_IndexFunc_int_int.l0])
    | succ k3_ =>
      have H := HA.out
      clear HA
      simp only [slices_IndexFunc_int_int.l0] at H
      by_cases c4_ : x8_1 < (l0.length : Int)
      · rw [if_pos c4_] at H
        have c4_b0 : decide (x8_1 < (l0.length : Int)) = true := decide_eq_true c4_
        clear c4_
        by_cases c5_ : 0 ≤ x8_1
        · rw [if_pos c5_] at H
          have c5_b0 : decide (0 ≤ x8_1) = true := decide_eq_true c5_
          clear c5_
          by_cases c6_ : x8_1 < (l0.length : Int)
          · rw [if_pos c6_] at H
            have c6_b0 : decide (x8_1 < (l0.length : Int)) = true := decide_eq_true c6_
            clear c6_
            replace H := Option.bind_eq_some_iff.mp H
            obtain ⟨t102, A7_0, H⟩ := H
            replace H : (if t102 = true then (some x8_1) else (slices_IndexFunc_int_int.l0 k3_ l0 g1 (l0.length : Int) (wrap64 (x8_1 + 1)))) = some r := H
            have A7_ := Aside0.mk A7_0
            clear A7_0
            by_cases c8_ : t102 = true
            · subst c8_
              have H1 : (some x8_1) = some r := by rw [if_pos rfl] at H; exact H
              clear H
              have H := H1
              clear H1
              obtain rfl := Option.some.inj H
              have p101 : 0 ≤ (x8_1 : Int) := of_decide_eq_true (by first | (with_reducible assumption) | assumption)
              have q101 : (x8_1 : Int) < (l0.length : Int) := of_decide_eq_true (by first | (with_reducible assumption) | assumption)
              obtain ⟨ad101, e101, hx101⟩ := Kd.at_int HR0.out x8_1 p101 q101
              cases e101
              replace hx101 := (HM.out.below.cell (World.block_lt_of_cell? w _ hx101)).trans hx101
              replace p101 := eq_true p101
              replace q101 := eq_true q101
              go_wp2_with (first | ((with_reducible refine gate_dst (N := 16) rfl ?_); refine goesB (some 16) rfl rfl (V := F1) (g := g1) (x := rd l0 x8_1) (r := true) rfl rfl rfl (FnB.below HF1.out HM.out.below) A7_.out ?_; intro w9_ hb; have n_ := Aside0.mk (HM.out.step hb); clear HM; have HM := n_; clear n_; clear hb))
              go_ret
              exact ⟨by first | rfl | (simp; done) | (simp only [i64_w]; done) | (simp [i64_w]; done) | (simp [*]; done), HM.out.below⟩
            · replace c8_ := Bool.eq_false_iff.mpr c8_
              subst c8_
              have H1 : (slices_IndexFunc_int_int.l0 k3_ l0 g1 (l0.length : Int) (wrap64 (x8_1 + 1))) = some r := by rw [if_neg (show ¬ (false = true) by decide)] at H; exact H
              clear H
              have H := H1
              clear H1
              have H' := Aside0.mk H
              clear H
              have p101 : 0 ≤ (x8_1 : Int) := of_decide_eq_true (by first | (with_reducible assumption) | assumption)
              have q101 : (x8_1 : Int) < (l0.length : Int) := of_decide_eq_true (by first | (with_reducible assumption) | assumption)
              obtain ⟨ad101, e101, hx101⟩ := Kd.at_int HR0.out x8_1 p101 q101
              cases e101
              replace hx101 := (HM.out.below.cell (World.block_lt_of_cell? w _ hx101)).trans hx101
              replace p101 := eq_true p101
              replace q101 := eq_true q101
              go_wp2_with (first | ((with_reducible refine gate_dst (N := 16) rfl ?_); refine goesB (some 16) rfl rfl (V := F1) (g := g1) (x := rd l0 x8_1) (r := false) rfl rfl rfl (FnB.below HF1.out HM.out.below) A7_.out ?_; intro w10_ hb; have n_ := Aside0.mk (HM.out.step hb); clear HM; have HM := n_; clear n_; clear hb))
              go_roundg k3_
              case measure => have hHK2__ := HK2_.out; omega
              case rel => exact ⟨(wrap64 (x8_1 + 1)), (by first | rfl | (simp; done) | (simp only [i64_w]; done) | (simp [i64_w]; done) | (simp [*]; done)), H', ⟨by have hHK2__ := HK2_.out; omega⟩, HM⟩
          · rw [if_neg c6_] at H
            have c6_b0 : decide (x8_1 < (l0.length : Int)) = false := decide_eq_false c6_
            clear c6_
            exact absurd H (by simp)
        · rw [if_neg c5_] at H
          have c5_b0 : decide (0 ≤ x8_1) = false := decide_eq_false c5_
          clear c5_
          exact absurd H (by simp)
      · rw [if_neg c4_] at H
        have c4_b0 : decide (x8_1 < (l0.length : Int)) = false := decide_eq_false c4_
        clear c4_
        obtain rfl := Option.some.inj H
        go_wp2
        go_ret
        exact ⟨by first | rfl | (simp; done) | (simp only [i64_w]; done) | (simp [i64_w]; done) | (simp [*]; done), HM.out.below⟩

/-! ### slices_ContainsFunc_int_int: function 63 -/
def slices_ContainsFunc_int_int.f (k : Nat) (l0 : List Int) (g1 : Int → Option Bool) : Option (Bool) := (slices_IndexFunc_int_int.f k l0 g1).bind fun t103 => (some (decide (t103 ≥ 0)))
set_option maxHeartbeats 8000000 in
set_option maxRecDepth 100000 in
theorem slices_ContainsFunc_int_int.calls (k : Nat) (A0 : Option Addr) (c0 : Nat) (l0 : List Int) (F1 : Value) (g1 : Int → Option Bool) (r : Bool) (w : World) (hr0 : Kd.C (Kd.int .i64) w A0 l0.length l0) (hc0 : l0.length ≤ c0) (hf1 : FnB Try.prog w F1 g1) (h : slices_ContainsFunc_int_int.f k l0 g1 = some r) :
    Calls Try.prog 63 #[.slice A0 l0.length c0, F1] w fun e w' => e = .returned (.bool r) ∧ Below w.heap.size w w' := by
  have HR0 := Aside0.mk hr0
  have HC0 := Aside0.mk hc0
  clear hr0 hc0
  have HF1 := Aside0.mk hf1
  clear hf1
  have HM := Aside0.mk (MS.start w)
  have H : ((slices_IndexFunc_int_int.f k l0 g1).bind fun t103 => (some (decide (t103 ≥ 0)))) = some r := h
  clear h
  replace H := Option.bind_eq_some_iff.mp H
  obtain ⟨t103, A1_0, H⟩ := H
  replace H : (some (decide (t103 ≥ 0))) = some r := H
  have A1_ := Aside0.mk A1_0
  clear A1_0
  obtain rfl := Option.some.inj H
  go_enter Try.func63, Try.ntmps63
  go_wp2_with (first | ((with_reducible refine gate_callee (f := 88) rfl ?_); (with_reducible refine gate_dst (N := 7) rfl ?_); refine goesL_ (some 7) rfl rfl Try.func88 (by kernel_rfl) rfl #[.slice A0 l0.length c0, F1] rfl (by (try simp only [List.map_toArray, List.map_cons, List.map_nil]); first | done | rfl | (simp only [List.length_drop, List.length_take]; rfl)) ?_; (with_reducible refine (slices_IndexFunc_int_int.calls k _ _ l0 _ g1 t103 _ ?sd0 ?sd1 ?sd2 A1_.out).mono ?_); (case sd0 => exact (Kd.C_below HR0.out HM.out.below)); (case sd1 => exact HC0.out); (case sd2 => exact (FnB.below HF1.out HM.out.below)); rintro e_ w2_ ⟨rfl, hb⟩; refine ⟨_, rfl, ?_⟩; have n_ := Aside0.mk (HM.out.step hb); clear HM; have HM := n_; clear n_; clear hb))
  go_ret
  exact ⟨by first | rfl | (simp; done) | (simp only [i64_w]; done) | (simp [i64_w]; done) | (simp [*]; done), HM.out.below⟩

end Go.Proofs.Ytlbhfbanbdahdaa.Q
