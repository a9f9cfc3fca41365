-- Written by a program of this session's own (wip/wgen.py): what functions of the program compute, and that they do.
import Derived.Below
import Derived.Deep.Draws
import Derived.Deep.AppendLies
import Derived.Maps.AppendAt
import Derived.OwnWalk
import Derived.Laws.BytesArg
import Derived.Laws.MakeOwn
import Derived.Laws.OwnMore
import Derived.Deep.OwnRows
import Derived.Tactics
import Derived.Lib.ConvBytes
import Derived.Laws.Slices
import Derived.WalkKit
import Derived.KernelRfl
import Derived.RowKit3
import Derived.Deep.LoopGhost
import Derived.Deep.QuietTactic
import Derived.BigQuiet
import Derived.WideLaws
import Derived.Deep.DeepCutAuto
import Derived.Deep.CutBlock
import Derived.Deep.RegionHeld3
import Derived.Laws.Rows
import Derived.Lib.AppendStr
import Derived.ArgAppend
import Derived.Laws.IdiomCopy
import Derived.OrdersHeld
import Derived.Laws.BitsLemmas
import Derived.RowKit
import Derived.Lib.SliceRun
import Derived.Test.YtlbhfbanbdahdaaHM
import Derived.Test.YtlbhfbanbdahdaaRG
import Derived.Test.YtlbhfbanbdahdaaProg
import Derived.Test.YtlbhfbanbdahdaaK1
import Derived.Test.YtlbhfbanbdahdaaK2
import Derived.Test.YtlbhfbanbdahdaaKA1
import Derived.Test.YtlbhfbanbdahdaaQI
import Derived.Test.YtlbhfbanbdahdaaCN
import Derived.Test.YtlbhfbanbdahdaaDF
import Derived.Test.YtlbhfbanbdahdaaQA
import Derived.Test.YtlbhfbanbdahdaaQB
namespace Go.Proofs.Ytlbhfbanbdahdaa.Q
open Go.RowKit Go.Proofs.YtlbhfbanbdahdaaW.PrintWords Go.Proofs.YtlbhfbanbdahdaaW.PrintLast Go.Proofs.YtlbhfbanbdahdaaW.PrintMore Go.Proofs.YtlbhfbanbdahdaaM Go.Proofs.Ytlbhfbanbdahdaa.K Go.Proofs.Ytlbhfbanbdahdaa.KA
attribute [local go_sem] max2_int min2_int max_two min_two max_three min_three max_four min_four
set_option linter.unusedVariables false
set_option linter.unusedSimpArgs false

/-! ### spec_l7Code: function 49 -/
def spec_l7Code.l0 : Nat → (List Int) → (Int) → (Int) → (Int) → Option (Int)
  | 0, _, _, _, _ => none
  | k + 1, x0, x1, x5, x6 => if 0 ≤ x1 then (if x6 < (shl .i64 1 x1) then ((spec_l3Falls.f k x0 x6).bind fun t101 => (if t101 = true then (if 0 ≤ x6 then (spec_l7Code.l0 k x0 x1 (Go.bits .or .i64 x5 (shl .i64 1 x6)) (wrap64 (x6 + 1))) else (none)) else (spec_l7Code.l0 k x0 x1 x5 (wrap64 (x6 + 1))))) else (some x5)) else (none)
def spec_l7Code.f (k : Nat) (l0 : List Int) (a1 : Int) : Option (Int) := spec_l7Code.l0 k l0 a1 0 0
set_option maxHeartbeats 8000000 in
set_option maxRecDepth 100000 in
theorem spec_l7Code.calls (k : Nat) (A0 : Option Addr) (c0 : Nat) (l0 : List Int) (a1 : Int) (r : Int) (w : World) (hr0 : Kd.C (Kd.int .i64) w A0 l0.length l0) (hc0 : l0.length ≤ c0) (h : spec_l7Code.f k l0 a1 = some r) :
    Calls Try.prog 49 #[.slice A0 l0.length c0, .int .i64 a1] w fun e w' => e = .returned (.int .i64 r) ∧ Below w.heap.size w w' := by
  have HR0 := Aside0.mk hr0
  have HC0 := Aside0.mk hc0
  clear hr0 hc0
  have HM := Aside0.mk (MS.start w)
  have H : (spec_l7Code.l0 k l0 a1 0 0) = some r := h
  clear h
  have H' := Aside0.mk H
  clear H
  go_enter Try.func49, Try.ntmps49
  go_wp2
  go_loopg [5, 6] k (fun kq v5 v6 w' => ∃ (x5_1 : Int) (x6_1 : Int), v5 = .int .i64 x5_1 ∧ v6 = .int .i64 x6_1 ∧ Aside0 (spec_l7Code.l0 kq l0 a1 x5_1 x6_1 = some r) ∧ Aside0 (kq ≤ k) ∧ Aside0 (MS w w' []))
  case atStart => exact ⟨(0), (0), (by first | rfl | (simp; done) | (simp only [i64_w]; done) | (simp [i64_w]; done) | (simp [*]; done)), (by first | rfl | (simp; done) | (simp only [i64_w]; done) | (simp [i64_w]; done) | (simp [*]; done)), H', ⟨Nat.le_refl _⟩, HM⟩
  case round =>
    clear H'
    clear HM
    obtain ⟨x5_1, x6_1, rfl, rfl, HA, HK2_, HM⟩ := hrel
    cases gk with
    | zero => exact absurd HA.out (by simp [spec_l7Code.l0])
    | succ k3_ =>
      have H := HA.out
      clear HA
      simp only [spec_l7Code.l0] at H
      by_cases c4_ : 0 ≤ a1
      · rw [if_pos c4_] at H
        have c4_x := eq_true c4_
        have c4_b0 : decide (0 ≤ a1) = true := decide_eq_true c4_
        clear c4_
        obtain ⟨ji5_, hji5_⟩ : ∃ j_ : Int, (shl .i64 1 a1) = j_ := ⟨_, rfl⟩
        replace H : (if x6_1 < ji5_ then ((spec_l3Falls.f k3_ l0 x6_1).bind fun t101 => (if t101 = true then (if 0 ≤ x6_1 then (spec_l7Code.l0 k3_ l0 a1 (Go.bits .or .i64 x5_1 (shl .i64 1 x6_1)) (wrap64 (x6_1 + 1))) else (none)) else (spec_l7Code.l0 k3_ l0 a1 x5_1 (wrap64 (x6_1 + 1))))) else (some x5_1)) = some r := by first | (rw [hji5_] at H; exact H) | (simp only [hji5_] at H ⊢; exact H)
        have hji5__ : (IntKind.i64.wrap (1 * 2 ^ min (a1).toNat 64)) = ji5_ := hji5_
        have hji5_z : (a1) ≤ 64 → (IntKind.i64.wrap (1 * 2 ^ (a1).toNat)) = ji5_ := shl_small hji5_
        have hji5_u : (IntKind.i64.wrap (2 ^ min (a1).toNat 64)) = ji5_ := by have h_ := hji5__; rw [Int.one_mul] at h_; exact h_
        have hji5_v : (a1) ≤ 64 → (IntKind.i64.wrap (2 ^ (a1).toNat)) = ji5_ := fun hle_ => by have h_ := hji5_z hle_; rw [Int.one_mul] at h_; exact h_
        have hji5_y : (wrap64 (1 * 2 ^ min (a1).toNat 64)) = ji5_ := (i64_w _).symm.trans hji5__
        have hji5_x : (a1) ≤ 64 → (wrap64 (1 * 2 ^ (a1).toNat)) = ji5_ := fun h_ => (i64_w _).symm.trans (hji5_z h_)
        by_cases c6_ : x6_1 < ji5_
        · rw [if_pos c6_] at H
          have c6_b0 : decide (x6_1 < ji5_) = true := decide_eq_true c6_
          clear c6_
          replace H := Option.bind_eq_some_iff.mp H
          obtain ⟨t101, A7_0, H⟩ := H
          replace H : (if t101 = true then (if 0 ≤ x6_1 then (spec_l7Code.l0 k3_ l0 a1 (Go.bits .or .i64 x5_1 (shl .i64 1 x6_1)) (wrap64 (x6_1 + 1))) else (none)) else (spec_l7Code.l0 k3_ l0 a1 x5_1 (wrap64 (x6_1 + 1)))) = some r := H
          have A7_ := Aside0.mk A7_0
          clear A7_0
          by_cases c8_ : t101 = true
          · subst c8_
            have H1 : (if 0 ≤ x6_1 then (spec_l7Code.l0 k3_ l0 a1 (Go.bits .or .i64 x5_1 (shl .i64 1 x6_1)) (wrap64 (x6_1 + 1))) else (none)) = some r := by rw [if_pos rfl] at H; exact H
            clear H
            have H := H1
            clear H1
            by_cases c9_ : 0 ≤ x6_1
            · rw [if_pos c9_] at H
              have c9_x := eq_true c9_
              have c9_b0 : decide (0 ≤ x6_1) = true := decide_eq_true c9_
              clear c9_
              obtain ⟨ji10_, hji10_⟩ : ∃ j_ : Int, (shl .i64 1 x6_1) = j_ := ⟨_, rfl⟩
              replace H : (spec_l7Code.l0 k3_ l0 a1 (Go.bits .or .i64 x5_1 ji10_) (wrap64 (x6_1 + 1))) = some r := by first | (rw [hji10_] at H; exact H) | (simp only [hji10_] at H ⊢; exact H)
              have hji10__ : (IntKind.i64.wrap (1 * 2 ^ min (x6_1).toNat 64)) = ji10_ := hji10_
              have hji10_z : (x6_1) ≤ 64 → (IntKind.i64.wrap (1 * 2 ^ (x6_1).toNat)) = ji10_ := shl_small hji10_
              have hji10_u : (IntKind.i64.wrap (2 ^ min (x6_1).toNat 64)) = ji10_ := by have h_ := hji10__; rw [Int.one_mul] at h_; exact h_
              have hji10_v : (x6_1) ≤ 64 → (IntKind.i64.wrap (2 ^ (x6_1).toNat)) = ji10_ := fun hle_ => by have h_ := hji10_z hle_; rw [Int.one_mul] at h_; exact h_
              have hji10_y : (wrap64 (1 * 2 ^ min (x6_1).toNat 64)) = ji10_ := (i64_w _).symm.trans hji10__
              have hji10_x : (x6_1) ≤ 64 → (wrap64 (1 * 2 ^ (x6_1).toNat)) = ji10_ := fun h_ => (i64_w _).symm.trans (hji10_z h_)
              have H' := Aside0.mk H
              clear H
              go_wp2_with (first | ((with_reducible refine gate_callee (f := 61) rfl ?_); (with_reducible refine gate_dst (N := 15) rfl ?_); refine goesL_ (some 15) rfl rfl Try.func61 (by kernel_rfl) rfl #[.slice A0 l0.length c0, .int .i64 x6_1] rfl (by (try simp only [List.map_toArray, List.map_cons, List.map_nil]); first | done | rfl | (simp only [List.length_drop, List.length_take]; rfl)) ?_; (with_reducible refine (spec_l3Falls.calls k3_ _ _ l0 x6_1 true _ ?sd0 ?sd1 A7_.out).mono ?_); (case sd0 => exact (Kd.C_below HR0.out HM.out.below)); (case sd1 => exact HC0.out); rintro e_ w11_ ⟨rfl, hb⟩; refine ⟨_, rfl, ?_⟩; have n_ := Aside0.mk (HM.out.step hb); clear HM; have HM := n_; clear n_; clear hb))
              go_roundg k3_
              case measure => have hHK2__ := HK2_.out; omega
              case rel => exact ⟨(Go.bits .or .i64 x5_1 ji10_), (wrap64 (x6_1 + 1)), (by first | rfl | (simp; done) | (simp only [i64_w]; done) | (simp [i64_w]; done) | (simp only [← hji5_, ← hji10_] <;> (first | rfl | (simp only [i64_w]; done) | simp)) | (simp [*]; done)), (by first | rfl | (simp; done) | (simp only [i64_w]; done) | (simp [i64_w]; done) | (simp only [← hji5_, ← hji10_] <;> (first | rfl | (simp only [i64_w]; done) | simp)) | (simp [*]; done)), H', ⟨by have hHK2__ := HK2_.out; omega⟩, HM⟩
            · rw [if_neg c9_] at H
              have c9_b0 : decide (0 ≤ x6_1) = false := decide_eq_false c9_
              clear c9_
              exact absurd H (by simp)
          · replace c8_ := Bool.eq_false_iff.mpr c8_
            subst c8_
            have H1 : (spec_l7Code.l0 k3_ l0 a1 x5_1 (wrap64 (x6_1 + 1))) = some r := by rw [if_neg (show ¬ (false = true) by decide)] at H; exact H
            clear H
            have H := H1
            clear H1
            have H' := Aside0.mk H
            clear H
            go_wp2_with (first | ((with_reducible refine gate_callee (f := 61) rfl ?_); (with_reducible refine gate_dst (N := 15) rfl ?_); refine goesL_ (some 15) rfl rfl Try.func61 (by kernel_rfl) rfl #[.slice A0 l0.length c0, .int .i64 x6_1] rfl (by (try simp only [List.map_toArray, List.map_cons, List.map_nil]); first | done | rfl | (simp only [List.length_drop, List.length_take]; rfl)) ?_; (with_reducible refine (spec_l3Falls.calls k3_ _ _ l0 x6_1 false _ ?sd0 ?sd1 A7_.out).mono ?_); (case sd0 => exact (Kd.C_below HR0.out HM.out.below)); (case sd1 => exact HC0.out); rintro e_ w12_ ⟨rfl, hb⟩; refine ⟨_, rfl, ?_⟩; have n_ := Aside0.mk (HM.out.step hb); clear HM; have HM := n_; clear n_; clear hb))
            go_roundg k3_
            case measure => have hHK2__ := HK2_.out; omega
            case rel => exact ⟨(x5_1), (wrap64 (x6_1 + 1)), (by first | rfl | (simp; done) | (simp only [i64_w]; done) | (simp [i64_w]; done) | (simp only [← hji5_] <;> (first | rfl | (simp only [i64_w]; done) | simp)) | (simp [*]; done)), (by first | rfl | (simp; done) | (simp only [i64_w]; done) | (simp [i64_w]; done) | (simp only [← hji5_] <;> (first | rfl | (simp only [i64_w]; done) | simp)) | (simp [*]; done)), H', ⟨by have hHK2__ := HK2_.out; omega⟩, HM⟩
        · rw [if_neg c6_] at H
          have c6_b0 : decide (x6_1 < ji5_) = false := decide_eq_false c6_
          clear c6_
          obtain rfl := Option.some.inj H
          go_wp2
          go_ret
          exact ⟨by first | rfl | (simp; done) | (simp only [i64_w]; done) | (simp [i64_w]; done) | (simp only [← hji5_] <;> (first | rfl | (simp only [i64_w]; done) | simp)) | (simp [*]; done), HM.out.below⟩
      · rw [if_neg c4_] at H
        have c4_b0 : decide (0 ≤ a1) = false := decide_eq_false c4_
        clear c4_
        exact absurd H (by simp)

/-! ### impl_ruleOf: function 52 -/
def impl_ruleOf.l0 : Nat → (List Int) → (Int) → (Int) → (Int) → Option (Int)
  | 0, _, _, _, _ => none
  | k + 1, x1, x5, x8, x9 => if x9 < x8 then ((impl_falls.f k x1 x9).bind fun t102 => (if t102 = true then (if 0 ≤ x9 then (impl_ruleOf.l0 k x1 (Go.bits .or .i64 x5 (shl .i64 1 x9)) x8 (wrap64 (x9 + 1))) else (none)) else (impl_ruleOf.l0 k x1 x5 x8 (wrap64 (x9 + 1))))) else (some x5)
def impl_ruleOf.f (k : Nat) (a0 : Int) (l1 : List Int) : Option (Int) := if 0 ≤ a0 then (impl_ruleOf.l0 k l1 0 (shl .i64 1 a0) 0) else (none)
set_option maxHeartbeats 8000000 in
set_option maxRecDepth 100000 in
theorem impl_ruleOf.calls (k : Nat) (a0 : Int) (A1 : Option Addr) (c1 : Nat) (l1 : List Int) (r : Int) (w : World) (hr1 : Kd.C (Kd.int .i64) w A1 l1.length l1) (hc1 : l1.length ≤ c1) (h : impl_ruleOf.f k a0 l1 = some r) :
    Calls Try.prog 52 #[.int .i64 a0, .slice A1 l1.length c1] w fun e w' => e = .returned (.int .i64 r) ∧ Below w.heap.size w w' := by
  have HR1 := Aside0.mk hr1
  have HC1 := Aside0.mk hc1
  clear hr1 hc1
  have HM := Aside0.mk (MS.start w)
  have H : (if 0 ≤ a0 then (impl_ruleOf.l0 k l1 0 (shl .i64 1 a0) 0) else (none)) = some r := h
  clear h
  by_cases c1_ : 0 ≤ a0
  · rw [if_pos c1_] at H
    have c1_x := eq_true c1_
    have c1_b0 : decide (0 ≤ a0) = true := decide_eq_true c1_
    clear c1_
    obtain ⟨ji2_, hji2_⟩ : ∃ j_ : Int, (shl .i64 1 a0) = j_ := ⟨_, rfl⟩
    replace H : (impl_ruleOf.l0 k l1 0 ji2_ 0) = some r := by first | (rw [hji2_] at H; exact H) | (simp only [hji2_] at H ⊢; exact H)
    have hji2__ : (IntKind.i64.wrap (1 * 2 ^ min (a0).toNat 64)) = ji2_ := hji2_
    have hji2_z : (a0) ≤ 64 → (IntKind.i64.wrap (1 * 2 ^ (a0).toNat)) = ji2_ := shl_small hji2_
    have hji2_u : (IntKind.i64.wrap (2 ^ min (a0).toNat 64)) = ji2_ := by have h_ := hji2__; rw [Int.one_mul] at h_; exact h_
    have hji2_v : (a0) ≤ 64 → (IntKind.i64.wrap (2 ^ (a0).toNat)) = ji2_ := fun hle_ => by have h_ := hji2_z hle_; rw [Int.one_mul] at h_; exact h_
    have hji2_y : (wrap64 (1 * 2 ^ min (a0).toNat 64)) = ji2_ := (i64_w _).symm.trans hji2__
    have hji2_x : (a0) ≤ 64 → (wrap64 (1 * 2 ^ (a0).toNat)) = ji2_ := fun h_ => (i64_w _).symm.trans (hji2_z h_)
    have H' := Aside0.mk H
    clear H
    go_enter Try.func52, Try.ntmps52
    go_wp2
    go_loopg [5, 9] k (fun kq v5 v9 w' => ∃ (x5_3 : Int) (x9_3 : Int), v5 = .int .i64 x5_3 ∧ v9 = .int .i64 x9_3 ∧ Aside0 (impl_ruleOf.l0 kq l1 x5_3 ji2_ x9_3 = some r) ∧ Aside0 (kq ≤ k) ∧ Aside0 (MS w w' []))
    case atStart => exact ⟨(0), (0), (by first | rfl | (simp; done) | (simp only [i64_w]; done) | (simp [i64_w]; done) | (simp only [← hji2_] <;> (first | rfl | (simp only [i64_w]; done) | simp)) | (simp [*]; done)), (by first | rfl | (simp; done) | (simp only [i64_w]; done) | (simp [i64_w]; done) | (simp only [← hji2_] <;> (first | rfl | (simp only [i64_w]; done) | simp)) | (simp [*]; done)), H', ⟨Nat.le_refl _⟩, HM⟩
    case round =>
      clear H'
      clear HM
      obtain ⟨x5_3, x9_3, rfl, rfl, HA, HK4_, HM⟩ := hrel
      cases gk with
      | zero => exact absurd HA.out (by simp [impl_ruleOf.l0])
      | succ k5_ =>
        have H := HA.out
        clear HA
        simp only [impl_ruleOf.l0] at H
        by_cases c6_ : x9_3 < ji2_
        · rw [if_pos c6_] at H
          have c6_b0 : decide (x9_3 < ji2_) = true := decide_eq_true c6_
          clear c6_
          replace H := Option.bind_eq_some_iff.mp H
          obtain ⟨t102, A7_0, H⟩ := H
          replace H : (if t102 = true then (if 0 ≤ x9_3 then (impl_ruleOf.l0 k5_ l1 (Go.bits .or .i64 x5_3 (shl .i64 1 x9_3)) ji2_ (wrap64 (x9_3 + 1))) else (none)) else (impl_ruleOf.l0 k5_ l1 x5_3 ji2_ (wrap64 (x9_3 + 1)))) = some r := H
          have A7_ := Aside0.mk A7_0
          clear A7_0
          by_cases c8_ : t102 = true
          · subst c8_
            have H1 : (if 0 ≤ x9_3 then (impl_ruleOf.l0 k5_ l1 (Go.bits .or .i64 x5_3 (shl .i64 1 x9_3)) ji2_ (wrap64 (x9_3 + 1))) else (none)) = some r := by rw [if_pos rfl] at H; exact H
            clear H
            have H := H1
            clear H1
            by_cases c9_ : 0 ≤ x9_3
            · rw [if_pos c9_] at H
              have c9_x := eq_true c9_
              have c9_b0 : decide (0 ≤ x9_3) = true := decide_eq_true c9_
              clear c9_
              obtain ⟨ji10_, hji10_⟩ : ∃ j_ : Int, (shl .i64 1 x9_3) = j_ := ⟨_, rfl⟩
              replace H : (impl_ruleOf.l0 k5_ l1 (Go.bits .or .i64 x5_3 ji10_) ji2_ (wrap64 (x9_3 + 1))) = some r := by first | (rw [hji10_] at H; exact H) | (simp only [hji10_] at H ⊢; exact H)
              have hji10__ : (IntKind.i64.wrap (1 * 2 ^ min (x9_3).toNat 64)) = ji10_ := hji10_
              have hji10_z : (x9_3) ≤ 64 → (IntKind.i64.wrap (1 * 2 ^ (x9_3).toNat)) = ji10_ := shl_small hji10_
              have hji10_u : (IntKind.i64.wrap (2 ^ min (x9_3).toNat 64)) = ji10_ := by have h_ := hji10__; rw [Int.one_mul] at h_; exact h_
              have hji10_v : (x9_3) ≤ 64 → (IntKind.i64.wrap (2 ^ (x9_3).toNat)) = ji10_ := fun hle_ => by have h_ := hji10_z hle_; rw [Int.one_mul] at h_; exact h_
              have hji10_y : (wrap64 (1 * 2 ^ min (x9_3).toNat 64)) = ji10_ := (i64_w _).symm.trans hji10__
              have hji10_x : (x9_3) ≤ 64 → (wrap64 (1 * 2 ^ (x9_3).toNat)) = ji10_ := fun h_ => (i64_w _).symm.trans (hji10_z h_)
              have H' := Aside0.mk H
              clear H
              go_wp2_with (first | ((with_reducible refine gate_callee (f := 66) rfl ?_); (with_reducible refine gate_dst (N := 14) rfl ?_); refine goesL_ (some 14) rfl rfl Try.func66 (by kernel_rfl) rfl #[.slice A1 l1.length c1, .int .i64 x9_3] rfl (by (try simp only [List.map_toArray, List.map_cons, List.map_nil]); first | done | rfl | (simp only [List.length_drop, List.length_take]; rfl)) ?_; (with_reducible refine (impl_falls.calls k5_ _ _ l1 x9_3 true _ ?sd0 ?sd1 A7_.out).mono ?_); (case sd0 => exact (Kd.C_below HR1.out HM.out.below)); (case sd1 => exact HC1.out); rintro e_ w11_ ⟨rfl, hb⟩; refine ⟨_, rfl, ?_⟩; have n_ := Aside0.mk (HM.out.step hb); clear HM; have HM := n_; clear n_; clear hb))
              go_roundg k5_
              case measure => have hHK4__ := HK4_.out; omega
              case rel => exact ⟨(Go.bits .or .i64 x5_3 ji10_), (wrap64 (x9_3 + 1)), (by first | rfl | (simp; done) | (simp only [i64_w]; done) | (simp [i64_w]; done) | (simp only [← hji10_] <;> (first | rfl | (simp only [i64_w]; done) | simp)) | (simp [*]; done)), (by first | rfl | (simp; done) | (simp only [i64_w]; done) | (simp [i64_w]; done) | (simp only [← hji10_] <;> (first | rfl | (simp only [i64_w]; done) | simp)) | (simp [*]; done)), H', ⟨by have hHK4__ := HK4_.out; omega⟩, HM⟩
            · rw [if_neg c9_] at H
              have c9_b0 : decide (0 ≤ x9_3) = false := decide_eq_false c9_
              clear c9_
              exact absurd H (by simp)
          · replace c8_ := Bool.eq_false_iff.mpr c8_
            subst c8_
            have H1 : (impl_ruleOf.l0 k5_ l1 x5_3 ji2_ (wrap64 (x9_3 + 1))) = some r := by rw [if_neg (show ¬ (false = true) by decide)] at H; exact H
            clear H
            have H := H1
            clear H1
            have H' := Aside0.mk H
            clear H
            go_wp2_with (first | ((with_reducible refine gate_callee (f := 66) rfl ?_); (with_reducible refine gate_dst (N := 14) rfl ?_); refine goesL_ (some 14) rfl rfl Try.func66 (by kernel_rfl) rfl #[.slice A1 l1.length c1, .int .i64 x9_3] rfl (by (try simp only [List.map_toArray, List.map_cons, List.map_nil]); first | done | rfl | (simp only [List.length_drop, List.length_take]; rfl)) ?_; (with_reducible refine (impl_falls.calls k5_ _ _ l1 x9_3 false _ ?sd0 ?sd1 A7_.out).mono ?_); (case sd0 => exact (Kd.C_below HR1.out HM.out.below)); (case sd1 => exact HC1.out); rintro e_ w12_ ⟨rfl, hb⟩; refine ⟨_, rfl, ?_⟩; have n_ := Aside0.mk (HM.out.step hb); clear HM; have HM := n_; clear n_; clear hb))
            go_roundg k5_
            case measure => have hHK4__ := HK4_.out; omega
            case rel => exact ⟨(x5_3), (wrap64 (x9_3 + 1)), (by first | rfl | (simp; done) | (simp only [i64_w]; done) | (simp [i64_w]; done) | (simp [*]; done)), (by first | rfl | (simp; done) | (simp only [i64_w]; done) | (simp [i64_w]; done) | (simp [*]; done)), H', ⟨by have hHK4__ := HK4_.out; omega⟩, HM⟩
        · rw [if_neg c6_] at H
          have c6_b0 : decide (x9_3 < ji2_) = false := decide_eq_false c6_
          clear c6_
          obtain rfl := Option.some.inj H
          go_wp2
          go_ret
          exact ⟨by first | rfl | (simp; done) | (simp only [i64_w]; done) | (simp [i64_w]; done) | (simp [*]; done), HM.out.below⟩
  · rw [if_neg c1_] at H
    have c1_b0 : decide (0 ≤ a0) = false := decide_eq_false c1_
    clear c1_
    exact absurd H (by simp)

/-! ### spec_l7Rule: function 55 -/
def spec_l7Rule.l0 : Nat → (Int) → (Int) → (Int) → (List Int) → Option (Int)
  | 0, _, _, _, _ => none
  | k + 1, x1, x5, x6, m1_0 => if 0 ≤ x1 then (if x6 < (shl .i64 1 x1) then ((spec_l5Has.f k m1_0 x6).bind fun t103 => (if t103 = true then (if 0 ≤ x6 then (spec_l7Rule.l0 k x1 (Go.bits .or .i64 x5 (shl .i64 1 x6)) (wrap64 (x6 + 1)) m1_0) else (none)) else (spec_l7Rule.l0 k x1 x5 (wrap64 (x6 + 1)) m1_0))) else (some x5)) else (none)
def spec_l7Rule.f (k : Nat) (l0_0 : List Int) (a1 : Int) : Option (Int) := spec_l7Rule.l0 k a1 0 0 l0_0
set_option maxHeartbeats 8000000 in
set_option maxRecDepth 100000 in
theorem spec_l7Rule.calls (k : Nat) (A0_0 : Option Addr) (c0_0 : Nat) (l0_0 : List Int) (a1 : Int) (r : Int) (w : World) (hr0_0 : Kd.C (Kd.int .i64) w A0_0 l0_0.length l0_0) (hc0_0 : l0_0.length ≤ c0_0) (h : spec_l7Rule.f k l0_0 a1 = some r) :
    Calls Try.prog 55 #[.agg #[.slice A0_0 l0_0.length c0_0], .int .i64 a1] w fun e w' => e = .returned (.int .i64 r) ∧ Below w.heap.size w w' := by
  have HR0_0 := Aside0.mk hr0_0
  have HC0_0 := Aside0.mk hc0_0
  clear hr0_0 hc0_0
  have hu30 := Try.underlying30
  have HM := Aside0.mk (MS.start w)
  have H : (spec_l7Rule.l0 k a1 0 0 l0_0) = some r := h
  clear h
  have H' := Aside0.mk H
  clear H
  go_enter Try.func55, Try.ntmps55
  go_wp2_with (first | ((with_reducible refine gate_dst (N := 2) rfl ?_); refine box_event ?hg (N := 2) ?hd (cs := #[.slice A0_0 l0_0.length c0_0]) (t := 30) ?hr ?_; (case hd => rfl); (case hg => rfl); (case hr => first | (go_simp; done) | (go_simp; rfl)); intro gb1 hg w1_ hbox hb; have n_ := Aside0.mk (HM.out.addBox hb hbox hg); clear HM; have HM := n_; clear n_; clear hb hbox hg))
  go_loopg [5, 6] k (fun kq v5 v6 w' => ∃ (x5_2 : Int) (x6_2 : Int), v5 = .int .i64 x5_2 ∧ v6 = .int .i64 x6_2 ∧ Aside0 (spec_l7Rule.l0 kq a1 x5_2 x6_2 l0_0 = some r) ∧ Aside0 (kq ≤ k) ∧ Aside0 (MS w w' [.box gb1 30 #[.slice A0_0 l0_0.length c0_0]]))
  case atStart => exact ⟨(0), (0), (by first | rfl | (simp; done) | (simp only [i64_w]; done) | (simp [i64_w]; done) | (simp [*]; done)), (by first | rfl | (simp; done) | (simp only [i64_w]; done) | (simp [i64_w]; done) | (simp [*]; done)), H', ⟨Nat.le_refl _⟩, HM⟩
  case round =>
    clear H'
    clear HM
    obtain ⟨x5_2, x6_2, rfl, rfl, HA, HK3_, HM⟩ := hrel
    cases gk with
    | zero => exact absurd HA.out (by simp [spec_l7Rule.l0])
    | succ k4_ =>
      have H := HA.out
      clear HA
      simp only [spec_l7Rule.l0] at H
      by_cases c5_ : 0 ≤ a1
      · rw [if_pos c5_] at H
        have c5_x := eq_true c5_
        have c5_b0 : decide (0 ≤ a1) = true := decide_eq_true c5_
        clear c5_
        obtain ⟨ji6_, hji6_⟩ : ∃ j_ : Int, (shl .i64 1 a1) = j_ := ⟨_, rfl⟩
        replace H : (if x6_2 < ji6_ then ((spec_l5Has.f k4_ l0_0 x6_2).bind fun t103 => (if t103 = true then (if 0 ≤ x6_2 then (spec_l7Rule.l0 k4_ a1 (Go.bits .or .i64 x5_2 (shl .i64 1 x6_2)) (wrap64 (x6_2 + 1)) l0_0) else (none)) else (spec_l7Rule.l0 k4_ a1 x5_2 (wrap64 (x6_2 + 1)) l0_0))) else (some x5_2)) = some r := by first | (rw [hji6_] at H; exact H) | (simp only [hji6_] at H ⊢; exact H)
        have hji6__ : (IntKind.i64.wrap (1 * 2 ^ min (a1).toNat 64)) = ji6_ := hji6_
        have hji6_z : (a1) ≤ 64 → (IntKind.i64.wrap (1 * 2 ^ (a1).toNat)) = ji6_ := shl_small hji6_
        have hji6_u : (IntKind.i64.wrap (2 ^ min (a1).toNat 64)) = ji6_ := by have h_ := hji6__; rw [Int.one_mul] at h_; exact h_
        have hji6_v : (a1) ≤ 64 → (IntKind.i64.wrap (2 ^ (a1).toNat)) = ji6_ := fun hle_ => by have h_ := hji6_z hle_; rw [Int.one_mul] at h_; exact h_
        have hji6_y : (wrap64 (1 * 2 ^ min (a1).toNat 64)) = ji6_ := (i64_w _).symm.trans hji6__
        have hji6_x : (a1) ≤ 64 → (wrap64 (1 * 2 ^ (a1).toNat)) = ji6_ := fun h_ => (i64_w _).symm.trans (hji6_z h_)
        by_cases c7_ : x6_2 < ji6_
        · rw [if_pos c7_] at H
          have c7_b0 : decide (x6_2 < ji6_) = true := decide_eq_true c7_
          clear c7_
          replace H := Option.bind_eq_some_iff.mp H
          obtain ⟨t103, A8_0, H⟩ := H
          replace H : (if t103 = true then (if 0 ≤ x6_2 then (spec_l7Rule.l0 k4_ a1 (Go.bits .or .i64 x5_2 (shl .i64 1 x6_2)) (wrap64 (x6_2 + 1)) l0_0) else (none)) else (spec_l7Rule.l0 k4_ a1 x5_2 (wrap64 (x6_2 + 1)) l0_0)) = some r := H
          have A8_ := Aside0.mk A8_0
          clear A8_0
          by_cases c9_ : t103 = true
          · subst c9_
            have H1 : (if 0 ≤ x6_2 then (spec_l7Rule.l0 k4_ a1 (Go.bits .or .i64 x5_2 (shl .i64 1 x6_2)) (wrap64 (x6_2 + 1)) l0_0) else (none)) = some r := by rw [if_pos rfl] at H; exact H
            clear H
            have H := H1
            clear H1
            by_cases c10_ : 0 ≤ x6_2
            · rw [if_pos c10_] at H
              have c10_x := eq_true c10_
              have c10_b0 : decide (0 ≤ x6_2) = true := decide_eq_true c10_
              clear c10_
              obtain ⟨ji11_, hji11_⟩ : ∃ j_ : Int, (shl .i64 1 x6_2) = j_ := ⟨_, rfl⟩
              replace H : (spec_l7Rule.l0 k4_ a1 (Go.bits .or .i64 x5_2 ji11_) (wrap64 (x6_2 + 1)) l0_0) = some r := by first | (rw [hji11_] at H; exact H) | (simp only [hji11_] at H ⊢; exact H)
              have hji11__ : (IntKind.i64.wrap (1 * 2 ^ min (x6_2).toNat 64)) = ji11_ := hji11_
              have hji11_z : (x6_2) ≤ 64 → (IntKind.i64.wrap (1 * 2 ^ (x6_2).toNat)) = ji11_ := shl_small hji11_
              have hji11_u : (IntKind.i64.wrap (2 ^ min (x6_2).toNat 64)) = ji11_ := by have h_ := hji11__; rw [Int.one_mul] at h_; exact h_
              have hji11_v : (x6_2) ≤ 64 → (IntKind.i64.wrap (2 ^ (x6_2).toNat)) = ji11_ := fun hle_ => by have h_ := hji11_z hle_; rw [Int.one_mul] at h_; exact h_
              have hji11_y : (wrap64 (1 * 2 ^ min (x6_2).toNat 64)) = ji11_ := (i64_w _).symm.trans hji11__
              have hji11_x : (x6_2) ≤ 64 → (wrap64 (1 * 2 ^ (x6_2).toNat)) = ji11_ := fun h_ => (i64_w _).symm.trans (hji11_z h_)
              have H' := Aside0.mk H
              clear H
              have hcz12_0 : wr.cell? ⟨gb1, 0, none⟩ = some (.slice A0_0 l0_0.length c0_0) := (blk_cell (HM.out.box 0 rfl) 0).trans rfl
              have hfz12_0 := blk_frozen (HM.out.box 0 rfl) 0
              go_wp2_with (first | ((with_reducible refine gate_callee (f := 71) rfl ?_); (with_reducible refine gate_dst (N := 15) rfl ?_); refine goesL_ (some 15) rfl rfl Try.func71 (by kernel_rfl) rfl #[.agg #[.slice A0_0 l0_0.length c0_0], .int .i64 x6_2] rfl (by (try simp only [List.map_toArray, List.map_cons, List.map_nil]); first | done | rfl | (simp only [List.length_drop, List.length_take]; rfl)) ?_; (with_reducible refine (spec_l5Has.calls k4_ _ _ l0_0 x6_2 true _ ?sd0 ?sd1 A8_.out).mono ?_); (case sd0 => exact (Kd.C_below HR0_0.out HM.out.below)); (case sd1 => exact HC0_0.out); rintro e_ w13_ ⟨rfl, hb⟩; refine ⟨_, rfl, ?_⟩; have n_ := Aside0.mk (HM.out.step hb); clear HM; have HM := n_; clear n_; clear hb))
              go_roundg k4_
              case measure => have hHK3__ := HK3_.out; omega
              case rel => exact ⟨(Go.bits .or .i64 x5_2 ji11_), (wrap64 (x6_2 + 1)), (by first | rfl | (simp; done) | (simp only [i64_w]; done) | (simp [i64_w]; done) | (simp only [← hji6_, ← hji11_] <;> (first | rfl | (simp only [i64_w]; done) | simp)) | (simp [*]; done)), (by first | rfl | (simp; done) | (simp only [i64_w]; done) | (simp [i64_w]; done) | (simp only [← hji6_, ← hji11_] <;> (first | rfl | (simp only [i64_w]; done) | simp)) | (simp [*]; done)), H', ⟨by have hHK3__ := HK3_.out; omega⟩, HM⟩
            · rw [if_neg c10_] at H
              have c10_b0 : decide (0 ≤ x6_2) = false := decide_eq_false c10_
              clear c10_
              exact absurd H (by simp)
          · replace c9_ := Bool.eq_false_iff.mpr c9_
            subst c9_
            have H1 : (spec_l7Rule.l0 k4_ a1 x5_2 (wrap64 (x6_2 + 1)) l0_0) = some r := by rw [if_neg (show ¬ (false = true) by decide)] at H; exact H
            clear H
            have H := H1
            clear H1
            have H' := Aside0.mk H
            clear H
            have hcz14_0 : wr.cell? ⟨gb1, 0, none⟩ = some (.slice A0_0 l0_0.length c0_0) := (blk_cell (HM.out.box 0 rfl) 0).trans rfl
            have hfz14_0 := blk_frozen (HM.out.box 0 rfl) 0
            go_wp2_with (first | ((with_reducible refine gate_callee (f := 71) rfl ?_); (with_reducible refine gate_dst (N := 15) rfl ?_); refine goesL_ (some 15) rfl rfl Try.func71 (by kernel_rfl) rfl #[.agg #[.slice A0_0 l0_0.length c0_0], .int .i64 x6_2] rfl (by (try simp only [List.map_toArray, List.map_cons, List.map_nil]); first | done | rfl | (simp only [List.length_drop, List.length_take]; rfl)) ?_; (with_reducible refine (spec_l5Has.calls k4_ _ _ l0_0 x6_2 false _ ?sd0 ?sd1 A8_.out).mono ?_); (case sd0 => exact (Kd.C_below HR0_0.out HM.out.below)); (case sd1 => exact HC0_0.out); rintro e_ w15_ ⟨rfl, hb⟩; refine ⟨_, rfl, ?_⟩; have n_ := Aside0.mk (HM.out.step hb); clear HM; have HM := n_; clear n_; clear hb))
            go_roundg k4_
            case measure => have hHK3__ := HK3_.out; omega
            case rel => exact ⟨(x5_2), (wrap64 (x6_2 + 1)), (by first | rfl | (simp; done) | (simp only [i64_w]; done) | (simp [i64_w]; done) | (simp only [← hji6_] <;> (first | rfl | (simp only [i64_w]; done) | simp)) | (simp [*]; done)), (by first | rfl | (simp; done) | (simp only [i64_w]; done) | (simp [i64_w]; done) | (simp only [← hji6_] <;> (first | rfl | (simp only [i64_w]; done) | simp)) | (simp [*]; done)), H', ⟨by have hHK3__ := HK3_.out; omega⟩, HM⟩
        · rw [if_neg c7_] at H
          have c7_b0 : decide (x6_2 < ji6_) = false := decide_eq_false c7_
          clear c7_
          obtain rfl := Option.some.inj H
          go_wp2
          go_ret
          exact ⟨by first | rfl | (simp; done) | (simp only [i64_w]; done) | (simp [i64_w]; done) | (simp only [← hji6_] <;> (first | rfl | (simp only [i64_w]; done) | simp)) | (simp [*]; done), HM.out.below⟩
      · rw [if_neg c5_] at H
        have c5_b0 : decide (0 ≤ a1) = false := decide_eq_false c5_
        clear c5_
        exact absurd H (by simp)

/-! ### impl_Family_rule: function 57 -/
def impl_Family_rule.l0 : Nat → (Int) → (Int) → (Int) → (List Int) → Option (Int)
  | 0, _, _, _, _ => none
  | k + 1, x5, x8, x9, m1_0 => if x9 < x8 then ((impl_Family_has.f k m1_0 x9).bind fun t104 => (if t104 = true then (if 0 ≤ x9 then (impl_Family_rule.l0 k (Go.bits .or .i64 x5 (shl .i64 1 x9)) x8 (wrap64 (x9 + 1)) m1_0) else (none)) else (impl_Family_rule.l0 k x5 x8 (wrap64 (x9 + 1)) m1_0))) else (some x5)
def impl_Family_rule.f (k : Nat) (l0_0 : List Int) (a1 : Int) : Option (Int) := if 0 ≤ a1 then (impl_Family_rule.l0 k 0 (shl .i64 1 a1) 0 l0_0) else (none)
set_option maxHeartbeats 8000000 in
set_option maxRecDepth 100000 in
theorem impl_Family_rule.calls (k : Nat) (A0_0 : Option Addr) (c0_0 : Nat) (l0_0 : List Int) (a1 : Int) (r : Int) (w : World) (hr0_0 : Kd.C (Kd.int .i64) w A0_0 l0_0.length l0_0) (hc0_0 : l0_0.length ≤ c0_0) (h : impl_Family_rule.f k l0_0 a1 = some r) :
    Calls Try.prog 57 #[.agg #[.slice A0_0 l0_0.length c0_0], .int .i64 a1] w fun e w' => e = .returned (.int .i64 r) ∧ Below w.heap.size w w' := by
  have HR0_0 := Aside0.mk hr0_0
  have HC0_0 := Aside0.mk hc0_0
  clear hr0_0 hc0_0
  have hu30 := Try.underlying30
  have HM := Aside0.mk (MS.start w)
  have H : (if 0 ≤ a1 then (impl_Family_rule.l0 k 0 (shl .i64 1 a1) 0 l0_0) else (none)) = some r := h
  clear h
  by_cases c1_ : 0 ≤ a1
  · rw [if_pos c1_] at H
    have c1_x := eq_true c1_
    have c1_b0 : decide (0 ≤ a1) = true := decide_eq_true c1_
    clear c1_
    obtain ⟨ji2_, hji2_⟩ : ∃ j_ : Int, (shl .i64 1 a1) = j_ := ⟨_, rfl⟩
    replace H : (impl_Family_rule.l0 k 0 ji2_ 0 l0_0) = some r := by first | (rw [hji2_] at H; exact H) | (simp only [hji2_] at H ⊢; exact H)
    have hji2__ : (IntKind.i64.wrap (1 * 2 ^ min (a1).toNat 64)) = ji2_ := hji2_
    have hji2_z : (a1) ≤ 64 → (IntKind.i64.wrap (1 * 2 ^ (a1).toNat)) = ji2_ := shl_small hji2_
    have hji2_u : (IntKind.i64.wrap (2 ^ min (a1).toNat 64)) = ji2_ := by have h_ := hji2__; rw [Int.one_mul] at h_; exact h_
    have hji2_v : (a1) ≤ 64 → (IntKind.i64.wrap (2 ^ (a1).toNat)) = ji2_ := fun hle_ => by have h_ := hji2_z hle_; rw [Int.one_mul] at h_; exact h_
    have hji2_y : (wrap64 (1 * 2 ^ min (a1).toNat 64)) = ji2_ := (i64_w _).symm.trans hji2__
    have hji2_x : (a1) ≤ 64 → (wrap64 (1 * 2 ^ (a1).toNat)) = ji2_ := fun h_ => (i64_w _).symm.trans (hji2_z h_)
    have H' := Aside0.mk H
    clear H
    go_enter Try.func57, Try.ntmps57
    go_wp2_with (first | ((with_reducible refine gate_dst (N := 2) rfl ?_); refine box_event ?hg (N := 2) ?hd (cs := #[.slice A0_0 l0_0.length c0_0]) (t := 30) ?hr ?_; (case hd => rfl); (case hg => rfl); (case hr => first | (go_simp; done) | (go_simp; rfl)); intro gb1 hg w3_ hbox hb; have n_ := Aside0.mk (HM.out.addBox hb hbox hg); clear HM; have HM := n_; clear n_; clear hb hbox hg))
    go_loopg [5, 9] k (fun kq v5 v9 w' => ∃ (x5_4 : Int) (x9_4 : Int), v5 = .int .i64 x5_4 ∧ v9 = .int .i64 x9_4 ∧ Aside0 (impl_Family_rule.l0 kq x5_4 ji2_ x9_4 l0_0 = some r) ∧ Aside0 (kq ≤ k) ∧ Aside0 (MS w w' [.box gb1 30 #[.slice A0_0 l0_0.length c0_0]]))
    case atStart => exact ⟨(0), (0), (by first | rfl | (simp; done) | (simp only [i64_w]; done) | (simp [i64_w]; done) | (simp only [← hji2_] <;> (first | rfl | (simp only [i64_w]; done) | simp)) | (simp [*]; done)), (by first | rfl | (simp; done) | (simp only [i64_w]; done) | (simp [i64_w]; done) | (simp only [← hji2_] <;> (first | rfl | (simp only [i64_w]; done) | simp)) | (simp [*]; done)), H', ⟨Nat.le_refl _⟩, HM⟩
    case round =>
      clear H'
      clear HM
      obtain ⟨x5_4, x9_4, rfl, rfl, HA, HK5_, HM⟩ := hrel
      cases gk with
      | zero => exact absurd HA.out (by simp [impl_Family_rule.l0])
      | succ k6_ =>
        have H := HA.out
        clear HA
        simp only [impl_Family_rule.l0] at H
        by_cases c7_ : x9_4 < ji2_
        · rw [if_pos c7_] at H
          have c7_b0 : decide (x9_4 < ji2_) = true := decide_eq_true c7_
          clear c7_
          replace H := Option.bind_eq_some_iff.mp H
          obtain ⟨t104, A8_0, H⟩ := H
          replace H : (if t104 = true then (if 0 ≤ x9_4 then (impl_Family_rule.l0 k6_ (Go.bits .or .i64 x5_4 (shl .i64 1 x9_4)) ji2_ (wrap64 (x9_4 + 1)) l0_0) else (none)) else (impl_Family_rule.l0 k6_ x5_4 ji2_ (wrap64 (x9_4 + 1)) l0_0)) = some r := H
          have A8_ := Aside0.mk A8_0
          clear A8_0
          by_cases c9_ : t104 = true
          · subst c9_
            have H1 : (if 0 ≤ x9_4 then (impl_Family_rule.l0 k6_ (Go.bits .or .i64 x5_4 (shl .i64 1 x9_4)) ji2_ (wrap64 (x9_4 + 1)) l0_0) else (none)) = some r := by rw [if_pos rfl] at H; exact H
            clear H
            have H := H1
            clear H1
            by_cases c10_ : 0 ≤ x9_4
            · rw [if_pos c10_] at H
              have c10_x := eq_true c10_
              have c10_b0 : decide (0 ≤ x9_4) = true := decide_eq_true c10_
              clear c10_
              obtain ⟨ji11_, hji11_⟩ : ∃ j_ : Int, (shl .i64 1 x9_4) = j_ := ⟨_, rfl⟩
              replace H : (impl_Family_rule.l0 k6_ (Go.bits .or .i64 x5_4 ji11_) ji2_ (wrap64 (x9_4 + 1)) l0_0) = some r := by first | (rw [hji11_] at H; exact H) | (simp only [hji11_] at H ⊢; exact H)
              have hji11__ : (IntKind.i64.wrap (1 * 2 ^ min (x9_4).toNat 64)) = ji11_ := hji11_
              have hji11_z : (x9_4) ≤ 64 → (IntKind.i64.wrap (1 * 2 ^ (x9_4).toNat)) = ji11_ := shl_small hji11_
              have hji11_u : (IntKind.i64.wrap (2 ^ min (x9_4).toNat 64)) = ji11_ := by have h_ := hji11__; rw [Int.one_mul] at h_; exact h_
              have hji11_v : (x9_4) ≤ 64 → (IntKind.i64.wrap (2 ^ (x9_4).toNat)) = ji11_ := fun hle_ => by have h_ := hji11_z hle_; rw [Int.one_mul] at h_; exact h_
              have hji11_y : (wrap64 (1 * 2 ^ min (x9_4).toNat 64)) = ji11_ := (i64_w _).symm.trans hji11__
              have hji11_x : (x9_4) ≤ 64 → (wrap64 (1 * 2 ^ (x9_4).toNat)) = ji11_ := fun h_ => (i64_w _).symm.trans (hji11_z h_)
              have H' := Aside0.mk H
              clear H
              have hcz12_0 : wr.cell? ⟨gb1, 0, none⟩ = some (.slice A0_0 l0_0.length c0_0) := (blk_cell (HM.out.box 0 rfl) 0).trans rfl
              have hfz12_0 := blk_frozen (HM.out.box 0 rfl) 0
              go_wp2_with (first | ((with_reducible refine gate_callee (f := 74) rfl ?_); (with_reducible refine gate_dst (N := 14) rfl ?_); refine goesL_ (some 14) rfl rfl Try.func74 (by kernel_rfl) rfl #[.agg #[.slice A0_0 l0_0.length c0_0], .int .i64 x9_4] rfl (by (try simp only [List.map_toArray, List.map_cons, List.map_nil]); first | done | rfl | (simp only [List.length_drop, List.length_take]; rfl)) ?_; (with_reducible refine (impl_Family_has.calls k6_ _ _ l0_0 x9_4 true _ ?sd0 ?sd1 A8_.out).mono ?_); (case sd0 => exact (Kd.C_below HR0_0.out HM.out.below)); (case sd1 => exact HC0_0.out); rintro e_ w13_ ⟨rfl, hb⟩; refine ⟨_, rfl, ?_⟩; have n_ := Aside0.mk (HM.out.step hb); clear HM; have HM := n_; clear n_; clear hb))
              go_roundg k6_
              case measure => have hHK5__ := HK5_.out; omega
              case rel => exact ⟨(Go.bits .or .i64 x5_4 ji11_), (wrap64 (x9_4 + 1)), (by first | rfl | (simp; done) | (simp only [i64_w]; done) | (simp [i64_w]; done) | (simp only [← hji11_] <;> (first | rfl | (simp only [i64_w]; done) | simp)) | (simp [*]; done)), (by first | rfl | (simp; done) | (simp only [i64_w]; done) | (simp [i64_w]; done) | (simp only [← hji11_] <;> (first | rfl | (simp only [i64_w]; done) | simp)) | (simp [*]; done)), H', ⟨by have hHK5__ := HK5_.out; omega⟩, HM⟩
            · rw [if_neg c10_] at H
              have c10_b0 : decide (0 ≤ x9_4) = false := decide_eq_false c10_
              clear c10_
              exact absurd H (by simp)
          · replace c9_ := Bool.eq_false_iff.mpr c9_
            subst c9_
            have H1 : (impl_Family_rule.l0 k6_ x5_4 ji2_ (wrap64 (x9_4 + 1)) l0_0) = some r := by rw [if_neg (show ¬ (false = true) by decide)] at H; exact H
            clear H
            have H := H1
            clear H1
            have H' := Aside0.mk H
            clear H
            have hcz14_0 : wr.cell? ⟨gb1, 0, none⟩ = some (.slice A0_0 l0_0.length c0_0) := (blk_cell (HM.out.box 0 rfl) 0).trans rfl
            have hfz14_0 := blk_frozen (HM.out.box 0 rfl) 0
            go_wp2_with (first | ((with_reducible refine gate_callee (f := 74) rfl ?_); (with_reducible refine gate_dst (N := 14) rfl ?_); refine goesL_ (some 14) rfl rfl Try.func74 (by kernel_rfl) rfl #[.agg #[.slice A0_0 l0_0.length c0_0], .int .i64 x9_4] rfl (by (try simp only [List.map_toArray, List.map_cons, List.map_nil]); first | done | rfl | (simp only [List.length_drop, List.length_take]; rfl)) ?_; (with_reducible refine (impl_Family_has.calls k6_ _ _ l0_0 x9_4 false _ ?sd0 ?sd1 A8_.out).mono ?_); (case sd0 => exact (Kd.C_below HR0_0.out HM.out.below)); (case sd1 => exact HC0_0.out); rintro e_ w15_ ⟨rfl, hb⟩; refine ⟨_, rfl, ?_⟩; have n_ := Aside0.mk (HM.out.step hb); clear HM; have HM := n_; clear n_; clear hb))
            go_roundg k6_
            case measure => have hHK5__ := HK5_.out; omega
            case rel => exact ⟨(x5_4), (wrap64 (x9_4 + 1)), (by first | rfl | (simp; done) | (simp only [i64_w]; done) | (simp [i64_w]; done) | (simp [*]; done)), (by first | rfl | (simp; done) | (simp only [i64_w]; done) | (simp [i64_w]; done) | (simp [*]; done)), H', ⟨by have hHK5__ := HK5_.out; omega⟩, HM⟩
        · rw [if_neg c7_] at H
          have c7_b0 : decide (x9_4 < ji2_) = false := decide_eq_false c7_
          clear c7_
          obtain rfl := Option.some.inj H
          go_wp2
          go_ret
          exact ⟨by first | rfl | (simp; done) | (simp only [i64_w]; done) | (simp [i64_w]; done) | (simp [*]; done), HM.out.below⟩
  · rw [if_neg c1_] at H
    have c1_b0 : decide (0 ≤ a1) = false := decide_eq_false c1_
    clear c1_
    exact absurd H (by simp)

end Go.Proofs.Ytlbhfbanbdahdaa.Q
