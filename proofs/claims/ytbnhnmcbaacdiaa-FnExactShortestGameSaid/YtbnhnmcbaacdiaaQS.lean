-- Written by a program of this session's own (wip/wgen.py): what functions of the program compute, and that they do.
import Derived.Below
import Derived.Deep.Draws
import Derived.Deep.AppendLies
import Derived.Maps.AppendAt
import Derived.OwnWalk
import Derived.Laws.BytesArg
import Derived.Laws.MakeOwn
import Derived.Laws.OwnMore
import Derived.Deep.OwnRows
import Derived.Tactics
import Derived.Lib.ConvBytes
import Derived.Laws.Slices
import Derived.WalkKit
import Derived.KernelRfl
import Derived.RowKit3
import Derived.Deep.LoopGhost
import Derived.Deep.QuietTactic
import Derived.BigQuiet
import Derived.WideLaws
import Derived.Deep.DeepCutAuto
import Derived.Deep.CutBlock
import Derived.Deep.RegionHeld3
import Derived.Laws.Rows
import Derived.Lib.AppendStr
import Derived.ArgAppend
import Derived.Laws.IdiomCopy
import Derived.OrdersHeld
import Derived.Laws.BitsLemmas
import Derived.RowKit
import Derived.Test.YtbnhnmcbaacdiaaHM
import Derived.Test.YtbnhnmcbaacdiaaRG
import Derived.Test.YtbnhnmcbaacdiaaProg
import Derived.Test.YtbnhnmcbaacdiaaK1
import Derived.Test.YtbnhnmcbaacdiaaK2
import Derived.Test.YtbnhnmcbaacdiaaQI
import Derived.Test.YtbnhnmcbaacdiaaCN
import Derived.Test.YtbnhnmcbaacdiaaDF
import Derived.Test.YtbnhnmcbaacdiaaQA
namespace Go.Proofs.Ytbnhnmcbaacdiaa.Q
open Go.RowKit Go.Proofs.YtbnhnmcbaacdiaaW.PrintWords Go.Proofs.YtbnhnmcbaacdiaaW.PrintLast Go.Proofs.YtbnhnmcbaacdiaaW.PrintMore Go.Proofs.YtbnhnmcbaacdiaaM Go.Proofs.Ytbnhnmcbaacdiaa.K
attribute [local go_sem] max2_int min2_int max_two min_two max_three min_three max_four min_four
set_option linter.unusedVariables false
set_option linter.unusedSimpArgs false

theorem info3 : (Try.prog.info? 3).map (fun i => (i.zero, i.size, i.bytes)) = some (some (.int .i64 0), 1, 8) := by kernel_rfl
/-! ### spec_l3Falls: function 31 -/
def spec_l3Falls.f (k : Nat) (l0 : List Int) (a1 : Int) : Option (Bool) := (spec_l3Take.f k l0 a1).bind fun t114 => (some ((t114.length : Int) == 0))
set_option maxHeartbeats 8000000 in
set_option maxRecDepth 100000 in
theorem spec_l3Falls.calls (k : Nat) (A0 : Option Addr) (c0 : Nat) (l0 : List Int) (a1 : Int) (r : Bool) (w : World) (hr0 : Kd.C (Kd.int .i64) w A0 l0.length l0) (hc0 : l0.length ≤ c0) (h : spec_l3Falls.f k l0 a1 = some r) :
    Calls Try.prog 31 #[.slice A0 l0.length c0, .int .i64 a1] w fun e w' => e = .returned (.bool r) ∧ Below w.heap.size w w' := by
  have HR0 := Aside0.mk hr0
  have HC0 := Aside0.mk hc0
  clear hr0 hc0
  have HM := Aside0.mk (MS.start w)
  have H : ((spec_l3Take.f k l0 a1).bind fun t114 => (some ((t114.length : Int) == 0))) = some r := h
  clear h
  replace H := Option.bind_eq_some_iff.mp H
  obtain ⟨t114, A1_0, H⟩ := H
  replace H : (some ((t114.length : Int) == 0)) = some r := H
  have A1_ := Aside0.mk A1_0
  clear A1_0
  obtain rfl := Option.some.inj H
  go_enter Try.func31, Try.ntmps31
  go_wp2_with (first | ((with_reducible refine gate_callee (f := 47) rfl ?_); (with_reducible refine gate_dst (N := 7) rfl ?_); refine goesL_ (some 7) rfl rfl Try.func47 (by kernel_rfl) rfl #[.slice A0 l0.length c0, .int .i64 a1] rfl (by (try simp only [List.map_toArray, List.map_cons, List.map_nil]); first | done | rfl | (simp only [List.length_drop, List.length_take]; rfl)) ?_; (with_reducible refine (spec_l3Take.calls k _ _ l0 a1 t114 _ ?sd0 ?sd1 A1_.out).mono ?_); (case sd0 => exact (Kd.C_below HR0.out HM.out.below)); (case sd1 => exact HC0.out); rintro e_ w2_ ⟨vv0_, rfl, ho0_, hb⟩; refine ⟨_, rfl, ?_⟩; obtain ⟨Ao1_0, co1_0, ev_⟩ := Kd.R_slice ho0_; subst ev_; have n_ := Aside0.mk (HM.out.addR hb ho0_); clear HM; have HM := n_; clear n_; clear hb ho0_))
  go_ret
  exact ⟨by first | rfl | (simp; done) | (simp [*]; done), HM.out.below⟩

/-! ### spec_l9Good: function 28 -/
def spec_l9Good.f (k : Nat) (l0 : List Int) (a1 : Int) (a2 : Int) : Option (Bool) := (spec_l2Word.f k l0).bind fun t115 => (if t115 = true then ((spec_l1In.f a1 1 6).bind fun t116 => (if t116 = true then (if 0 ≤ a1 then ((spec_l1In.f a2 0 (wrap64 ((shl .i64 1 a1) - 1))).bind fun t117 => (if t117 = true then ((spec_l3Falls.f k l0 a2).bind fun t118 => (if t118 = true then (some false) else ((spec_l3Falls.f k l0 (wrap64 ((shl .i64 1 a1) - 1))).bind fun t119 => (some t119)))) else (some false))) else (none)) else (some false))) else (some false))
set_option maxHeartbeats 8000000 in
set_option maxRecDepth 100000 in
theorem spec_l9Good.calls (k : Nat) (A0 : Option Addr) (c0 : Nat) (l0 : List Int) (a1 : Int) (a2 : Int) (r : Bool) (w : World) (hr0 : Kd.C (Kd.int .i64) w A0 l0.length l0) (hc0 : l0.length ≤ c0) (h : spec_l9Good.f k l0 a1 a2 = some r) :
    Calls Try.prog 28 #[.slice A0 l0.length c0, .int .i64 a1, .int .i64 a2] w fun e w' => e = .returned (.bool r) ∧ Below w.heap.size w w' := by
  have HR0 := Aside0.mk hr0
  have HC0 := Aside0.mk hc0
  clear hr0 hc0
  have HM := Aside0.mk (MS.start w)
  have H : ((spec_l2Word.f k l0).bind fun t115 => (if t115 = true then ((spec_l1In.f a1 1 6).bind fun t116 => (if t116 = true then (if 0 ≤ a1 then ((spec_l1In.f a2 0 (wrap64 ((shl .i64 1 a1) - 1))).bind fun t117 => (if t117 = true then ((spec_l3Falls.f k l0 a2).bind fun t118 => (if t118 = true then (some false) else ((spec_l3Falls.f k l0 (wrap64 ((shl .i64 1 a1) - 1))).bind fun t119 => (some t119)))) else (some false))) else (none)) else (some false))) else (some false))) = some r := h
  clear h
  replace H := Option.bind_eq_some_iff.mp H
  obtain ⟨t115, A1_0, H⟩ := H
  replace H : (if t115 = true then ((spec_l1In.f a1 1 6).bind fun t116 => (if t116 = true then (if 0 ≤ a1 then ((spec_l1In.f a2 0 (wrap64 ((shl .i64 1 a1) - 1))).bind fun t117 => (if t117 = true then ((spec_l3Falls.f k l0 a2).bind fun t118 => (if t118 = true then (some false) else ((spec_l3Falls.f k l0 (wrap64 ((shl .i64 1 a1) - 1))).bind fun t119 => (some t119)))) else (some false))) else (none)) else (some false))) else (some false)) = some r := H
  have A1_ := Aside0.mk A1_0
  clear A1_0
  by_cases c2_ : t115 = true
  · subst c2_
    have H1 : ((spec_l1In.f a1 1 6).bind fun t116 => (if t116 = true then (if 0 ≤ a1 then ((spec_l1In.f a2 0 (wrap64 ((shl .i64 1 a1) - 1))).bind fun t117 => (if t117 = true then ((spec_l3Falls.f k l0 a2).bind fun t118 => (if t118 = true then (some false) else ((spec_l3Falls.f k l0 (wrap64 ((shl .i64 1 a1) - 1))).bind fun t119 => (some t119)))) else (some false))) else (none)) else (some false))) = some r := by rw [if_pos rfl] at H; exact H
    clear H
    have H := H1
    clear H1
    replace H := Option.bind_eq_some_iff.mp H
    obtain ⟨t116, A3_0, H⟩ := H
    replace H : (if t116 = true then (if 0 ≤ a1 then ((spec_l1In.f a2 0 (wrap64 ((shl .i64 1 a1) - 1))).bind fun t117 => (if t117 = true then ((spec_l3Falls.f k l0 a2).bind fun t118 => (if t118 = true then (some false) else ((spec_l3Falls.f k l0 (wrap64 ((shl .i64 1 a1) - 1))).bind fun t119 => (some t119)))) else (some false))) else (none)) else (some false)) = some r := H
    have A3_ := Aside0.mk A3_0
    clear A3_0
    by_cases c4_ : t116 = true
    · subst c4_
      have H1 : (if 0 ≤ a1 then ((spec_l1In.f a2 0 (wrap64 ((shl .i64 1 a1) - 1))).bind fun t117 => (if t117 = true then ((spec_l3Falls.f k l0 a2).bind fun t118 => (if t118 = true then (some false) else ((spec_l3Falls.f k l0 (wrap64 ((shl .i64 1 a1) - 1))).bind fun t119 => (some t119)))) else (some false))) else (none)) = some r := by rw [if_pos rfl] at H; exact H
      clear H
      have H := H1
      clear H1
      by_cases c5_ : 0 ≤ a1
      · rw [if_pos c5_] at H
        have c5_x := eq_true c5_
        have c5_b0 : decide (0 ≤ a1) = true := decide_eq_true c5_
        clear c5_
        obtain ⟨ji6_, hji6_⟩ : ∃ j_ : Int, (shl .i64 1 a1) = j_ := ⟨_, rfl⟩
        replace H : ((spec_l1In.f a2 0 (wrap64 (ji6_ - 1))).bind fun t117 => (if t117 = true then ((spec_l3Falls.f k l0 a2).bind fun t118 => (if t118 = true then (some false) else ((spec_l3Falls.f k l0 (wrap64 (ji6_ - 1))).bind fun t119 => (some t119)))) else (some false))) = some r := by first | (rw [hji6_] at H; exact H) | (simp only [hji6_] at H ⊢; exact H)
        have hji6__ : (IntKind.i64.wrap (1 * 2 ^ min (a1).toNat 64)) = ji6_ := hji6_
        have hji6_z : (a1) ≤ 64 → (IntKind.i64.wrap (1 * 2 ^ (a1).toNat)) = ji6_ := shl_small hji6_
        have hji6_u : (IntKind.i64.wrap (2 ^ min (a1).toNat 64)) = ji6_ := by have h_ := hji6__; rw [Int.one_mul] at h_; exact h_
        have hji6_v : (a1) ≤ 64 → (IntKind.i64.wrap (2 ^ (a1).toNat)) = ji6_ := fun hle_ => by have h_ := hji6_z hle_; rw [Int.one_mul] at h_; exact h_
        have hji6_y : (wrap64 (1 * 2 ^ min (a1).toNat 64)) = ji6_ := (i64_w _).symm.trans hji6__
        have hji6_x : (a1) ≤ 64 → (wrap64 (1 * 2 ^ (a1).toNat)) = ji6_ := fun h_ => (i64_w _).symm.trans (hji6_z h_)
        replace H := Option.bind_eq_some_iff.mp H
        obtain ⟨t117, A7_0, H⟩ := H
        replace H : (if t117 = true then ((spec_l3Falls.f k l0 a2).bind fun t118 => (if t118 = true then (some false) else ((spec_l3Falls.f k l0 (wrap64 (ji6_ - 1))).bind fun t119 => (some t119)))) else (some false)) = some r := H
        have A7_ := Aside0.mk A7_0
        clear A7_0
        by_cases c8_ : t117 = true
        · subst c8_
          have H1 : ((spec_l3Falls.f k l0 a2).bind fun t118 => (if t118 = true then (some false) else ((spec_l3Falls.f k l0 (wrap64 (ji6_ - 1))).bind fun t119 => (some t119)))) = some r := by rw [if_pos rfl] at H; exact H
          clear H
          have H := H1
          clear H1
          replace H := Option.bind_eq_some_iff.mp H
          obtain ⟨t118, A9_0, H⟩ := H
          replace H : (if t118 = true then (some false) else ((spec_l3Falls.f k l0 (wrap64 (ji6_ - 1))).bind fun t119 => (some t119))) = some r := H
          have A9_ := Aside0.mk A9_0
          clear A9_0
          by_cases c10_ : t118 = true
          · subst c10_
            have H1 : (some false) = some r := by rw [if_pos rfl] at H; exact H
            clear H
            have H := H1
            clear H1
            obtain rfl := Option.some.inj H
            go_enter Try.func28, Try.ntmps28
            go_wp2_with (first | ((with_reducible refine gate_callee (f := 46) rfl ?_); (with_reducible refine gate_dst (N := 8) rfl ?_); refine goesL_ (some 8) rfl rfl Try.func46 (by kernel_rfl) rfl #[.slice A0 l0.length c0] rfl (by (try simp only [List.map_toArray, List.map_cons, List.map_nil]); first | done | rfl | (simp only [List.length_drop, List.length_take]; rfl)) ?_; (with_reducible refine (spec_l2Word.calls k _ _ l0 true _ ?sd0 ?sd1 A1_.out).mono ?_); (case sd0 => exact (Kd.C_below HR0.out HM.out.below)); (case sd1 => exact HC0.out); rintro e_ w11_ ⟨rfl, hd_⟩; refine ⟨_, rfl, ?_⟩; have hb := hd_.below; clear hd_; have n_ := Aside0.mk (HM.out.step hb); clear HM; have HM := n_; clear n_; clear hb) | (go_at_call 29; (refine calls_of_args (args' := #[.int .i64 a1, .int .i64 1, .int .i64 6]) (by first | done | rfl) ?_); (with_reducible refine (spec_l1In.calls a1 1 6 true _  A3_.out).mono ?_); rintro e_ w12_ ⟨rfl, hd_⟩; have hb := hd_.below; clear hd_; have n_ := Aside0.mk (HM.out.step hb); clear HM; have HM := n_; clear n_; clear hb) | (go_at_call 29; (refine calls_of_args (args' := #[.int .i64 a2, .int .i64 0, .int .i64 (wrap64 (ji6_ - 1))]) (by first | done | rfl) ?_); (with_reducible refine (spec_l1In.calls a2 0 (wrap64 (ji6_ - 1)) true _  A7_.out).mono ?_); rintro e_ w13_ ⟨rfl, hd_⟩; have hb := hd_.below; clear hd_; have n_ := Aside0.mk (HM.out.step hb); clear HM; have HM := n_; clear n_; clear hb) | ((with_reducible refine gate_callee (f := 31) rfl ?_); (with_reducible refine gate_dst (N := 25) rfl ?_); refine goesL_ (some 25) rfl rfl Try.func31 (by kernel_rfl) rfl #[.slice A0 l0.length c0, .int .i64 a2] rfl (by (try simp only [List.map_toArray, List.map_cons, List.map_nil]); first | done | rfl | (simp only [List.length_drop, List.length_take]; rfl)) ?_; (with_reducible refine (spec_l3Falls.calls k _ _ l0 a2 true _ ?sd0 ?sd1 A9_.out).mono ?_); (case sd0 => exact (Kd.C_below HR0.out HM.out.below)); (case sd1 => exact HC0.out); rintro e_ w14_ ⟨rfl, hb⟩; refine ⟨_, rfl, ?_⟩; have n_ := Aside0.mk (HM.out.step hb); clear HM; have HM := n_; clear n_; clear hb))
            go_ret
            exact ⟨by first | rfl | (simp; done) | (simp only [← hji6_] <;> (first | rfl | simp)) | (simp [*]; done), HM.out.below⟩
          · replace c10_ := Bool.eq_false_iff.mpr c10_
            subst c10_
            have H1 : ((spec_l3Falls.f k l0 (wrap64 (ji6_ - 1))).bind fun t119 => (some t119)) = some r := by rw [if_neg (show ¬ (false = true) by decide)] at H; exact H
            clear H
            have H := H1
            clear H1
            replace H := Option.bind_eq_some_iff.mp H
            obtain ⟨t119, A15_0, H⟩ := H
            replace H : (some t119) = some r := H
            have A15_ := Aside0.mk A15_0
            clear A15_0
            obtain rfl := Option.some.inj H
            go_enter Try.func28, Try.ntmps28
            go_wp2_with (first | ((with_reducible refine gate_callee (f := 46) rfl ?_); (with_reducible refine gate_dst (N := 8) rfl ?_); refine goesL_ (some 8) rfl rfl Try.func46 (by kernel_rfl) rfl #[.slice A0 l0.length c0] rfl (by (try simp only [List.map_toArray, List.map_cons, List.map_nil]); first | done | rfl | (simp only [List.length_drop, List.length_take]; rfl)) ?_; (with_reducible refine (spec_l2Word.calls k _ _ l0 true _ ?sd0 ?sd1 A1_.out).mono ?_); (case sd0 => exact (Kd.C_below HR0.out HM.out.below)); (case sd1 => exact HC0.out); rintro e_ w16_ ⟨rfl, hd_⟩; refine ⟨_, rfl, ?_⟩; have hb := hd_.below; clear hd_; have n_ := Aside0.mk (HM.out.step hb); clear HM; have HM := n_; clear n_; clear hb) | (go_at_call 29; (refine calls_of_args (args' := #[.int .i64 a1, .int .i64 1, .int .i64 6]) (by first | done | rfl) ?_); (with_reducible refine (spec_l1In.calls a1 1 6 true _  A3_.out).mono ?_); rintro e_ w17_ ⟨rfl, hd_⟩; have hb := hd_.below; clear hd_; have n_ := Aside0.mk (HM.out.step hb); clear HM; have HM := n_; clear n_; clear hb) | (go_at_call 29; (refine calls_of_args (args' := #[.int .i64 a2, .int .i64 0, .int .i64 (wrap64 (ji6_ - 1))]) (by first | done | rfl) ?_); (with_reducible refine (spec_l1In.calls a2 0 (wrap64 (ji6_ - 1)) true _  A7_.out).mono ?_); rintro e_ w18_ ⟨rfl, hd_⟩; have hb := hd_.below; clear hd_; have n_ := Aside0.mk (HM.out.step hb); clear HM; have HM := n_; clear n_; clear hb) | ((with_reducible refine gate_callee (f := 31) rfl ?_); (with_reducible refine gate_dst (N := 25) rfl ?_); refine goesL_ (some 25) rfl rfl Try.func31 (by kernel_rfl) rfl #[.slice A0 l0.length c0, .int .i64 a2] rfl (by (try simp only [List.map_toArray, List.map_cons, List.map_nil]); first | done | rfl | (simp only [List.length_drop, List.length_take]; rfl)) ?_; (with_reducible refine (spec_l3Falls.calls k _ _ l0 a2 false _ ?sd0 ?sd1 A9_.out).mono ?_); (case sd0 => exact (Kd.C_below HR0.out HM.out.below)); (case sd1 => exact HC0.out); rintro e_ w19_ ⟨rfl, hb⟩; refine ⟨_, rfl, ?_⟩; have n_ := Aside0.mk (HM.out.step hb); clear HM; have HM := n_; clear n_; clear hb) | (go_at_call 31; (refine calls_of_args (args' := #[.slice A0 l0.length c0, .int .i64 (wrap64 (ji6_ - 1))]) (by first | done | rfl) ?_); (with_reducible refine (spec_l3Falls.calls k _ _ l0 (wrap64 (ji6_ - 1)) t119 _ ?sd0 ?sd1 A15_.out).mono ?_); (case sd0 => exact (Kd.C_below HR0.out HM.out.below)); (case sd1 => exact HC0.out); rintro e_ w20_ ⟨rfl, hb⟩; have n_ := Aside0.mk (HM.out.step hb); clear HM; have HM := n_; clear n_; clear hb))
            go_ret
            exact ⟨by first | rfl | (simp; done) | (simp only [← hji6_] <;> (first | rfl | simp)) | (simp [*]; done), HM.out.below⟩
        · replace c8_ := Bool.eq_false_iff.mpr c8_
          subst c8_
          have H1 : (some false) = some r := by rw [if_neg (show ¬ (false = true) by decide)] at H; exact H
          clear H
          have H := H1
          clear H1
          obtain rfl := Option.some.inj H
          go_enter Try.func28, Try.ntmps28
          go_wp2_with (first | ((with_reducible refine gate_callee (f := 46) rfl ?_); (with_reducible refine gate_dst (N := 8) rfl ?_); refine goesL_ (some 8) rfl rfl Try.func46 (by kernel_rfl) rfl #[.slice A0 l0.length c0] rfl (by (try simp only [List.map_toArray, List.map_cons, List.map_nil]); first | done | rfl | (simp only [List.length_drop, List.length_take]; rfl)) ?_; (with_reducible refine (spec_l2Word.calls k _ _ l0 true _ ?sd0 ?sd1 A1_.out).mono ?_); (case sd0 => exact (Kd.C_below HR0.out HM.out.below)); (case sd1 => exact HC0.out); rintro e_ w21_ ⟨rfl, hd_⟩; refine ⟨_, rfl, ?_⟩; have hb := hd_.below; clear hd_; have n_ := Aside0.mk (HM.out.step hb); clear HM; have HM := n_; clear n_; clear hb) | (go_at_call 29; (refine calls_of_args (args' := #[.int .i64 a1, .int .i64 1, .int .i64 6]) (by first | done | rfl) ?_); (with_reducible refine (spec_l1In.calls a1 1 6 true _  A3_.out).mono ?_); rintro e_ w22_ ⟨rfl, hd_⟩; have hb := hd_.below; clear hd_; have n_ := Aside0.mk (HM.out.step hb); clear HM; have HM := n_; clear n_; clear hb) | (go_at_call 29; (refine calls_of_args (args' := #[.int .i64 a2, .int .i64 0, .int .i64 (wrap64 (ji6_ - 1))]) (by first | done | rfl) ?_); (with_reducible refine (spec_l1In.calls a2 0 (wrap64 (ji6_ - 1)) false _  A7_.out).mono ?_); rintro e_ w23_ ⟨rfl, hd_⟩; have hb := hd_.below; clear hd_; have n_ := Aside0.mk (HM.out.step hb); clear HM; have HM := n_; clear n_; clear hb))
          go_ret
          exact ⟨by first | rfl | (simp; done) | (simp only [← hji6_] <;> (first | rfl | simp)) | (simp [*]; done), HM.out.below⟩
      · rw [if_neg c5_] at H
        have c5_b0 : decide (0 ≤ a1) = false := decide_eq_false c5_
        clear c5_
        exact absurd H (by simp)
    · replace c4_ := Bool.eq_false_iff.mpr c4_
      subst c4_
      have H1 : (some false) = some r := by rw [if_neg (show ¬ (false = true) by decide)] at H; exact H
      clear H
      have H := H1
      clear H1
      obtain rfl := Option.some.inj H
      go_enter Try.func28, Try.ntmps28
      go_wp2_with (first | ((with_reducible refine gate_callee (f := 46) rfl ?_); (with_reducible refine gate_dst (N := 8) rfl ?_); refine goesL_ (some 8) rfl rfl Try.func46 (by kernel_rfl) rfl #[.slice A0 l0.length c0] rfl (by (try simp only [List.map_toArray, List.map_cons, List.map_nil]); first | done | rfl | (simp only [List.length_drop, List.length_take]; rfl)) ?_; (with_reducible refine (spec_l2Word.calls k _ _ l0 true _ ?sd0 ?sd1 A1_.out).mono ?_); (case sd0 => exact (Kd.C_below HR0.out HM.out.below)); (case sd1 => exact HC0.out); rintro e_ w24_ ⟨rfl, hd_⟩; refine ⟨_, rfl, ?_⟩; have hb := hd_.below; clear hd_; have n_ := Aside0.mk (HM.out.step hb); clear HM; have HM := n_; clear n_; clear hb) | (go_at_call 29; (refine calls_of_args (args' := #[.int .i64 a1, .int .i64 1, .int .i64 6]) (by first | done | rfl) ?_); (with_reducible refine (spec_l1In.calls a1 1 6 false _  A3_.out).mono ?_); rintro e_ w25_ ⟨rfl, hd_⟩; have hb := hd_.below; clear hd_; have n_ := Aside0.mk (HM.out.step hb); clear HM; have HM := n_; clear n_; clear hb))
      go_ret
      exact ⟨by first | rfl | (simp; done) | (simp [*]; done), HM.out.below⟩
  · replace c2_ := Bool.eq_false_iff.mpr c2_
    subst c2_
    have H1 : (some false) = some r := by rw [if_neg (show ¬ (false = true) by decide)] at H; exact H
    clear H
    have H := H1
    clear H1
    obtain rfl := Option.some.inj H
    go_enter Try.func28, Try.ntmps28
    go_wp2_with (first | ((with_reducible refine gate_callee (f := 46) rfl ?_); (with_reducible refine gate_dst (N := 8) rfl ?_); refine goesL_ (some 8) rfl rfl Try.func46 (by kernel_rfl) rfl #[.slice A0 l0.length c0] rfl (by (try simp only [List.map_toArray, List.map_cons, List.map_nil]); first | done | rfl | (simp only [List.length_drop, List.length_take]; rfl)) ?_; (with_reducible refine (spec_l2Word.calls k _ _ l0 false _ ?sd0 ?sd1 A1_.out).mono ?_); (case sd0 => exact (Kd.C_below HR0.out HM.out.below)); (case sd1 => exact HC0.out); rintro e_ w26_ ⟨rfl, hd_⟩; refine ⟨_, rfl, ?_⟩; have hb := hd_.below; clear hd_; have n_ := Aside0.mk (HM.out.step hb); clear HM; have HM := n_; clear n_; clear hb))
    go_ret
    exact ⟨by first | rfl | (simp; done) | (simp [*]; done), HM.out.below⟩

/-! ### spec_l9Out: function 32 -/
def spec_l9Out.f (a0 : Int) (a1 : Int) : Option (Int) := if 0 ≤ (wrap64 (a1 - 1)) then (some (Go.bits .or .i64 a0 (shl .i64 1 (wrap64 (a1 - 1))))) else (none)
set_option maxHeartbeats 8000000 in
set_option maxRecDepth 100000 in
theorem spec_l9Out.calls (a0 : Int) (a1 : Int) (r : Int) (w : World)  (h : spec_l9Out.f a0 a1 = some r) :
    Calls Try.prog 32 #[.int .i64 a0, .int .i64 a1] w fun e w' => e = .returned (.int .i64 r) ∧ Drawn0 w w' := by
  have HM := Aside0.mk (MS.start w)
  have HD := Aside0.mk (Drawn0.refl w)
  have H : (if 0 ≤ (wrap64 (a1 - 1)) then (some (Go.bits .or .i64 a0 (shl .i64 1 (wrap64 (a1 - 1))))) else (none)) = some r := h
  clear h
  obtain ⟨ji1_, hji1_⟩ : ∃ j_ : Int, (wrap64 (a1 - 1)) = j_ := ⟨_, rfl⟩
  replace H : (if 0 ≤ ji1_ then (some (Go.bits .or .i64 a0 (shl .i64 1 ji1_))) else (none)) = some r := by first | (rw [hji1_] at H; exact H) | (simp only [hji1_] at H ⊢; exact H)
  have hji1_w : (IntKind.i64.wrap (a1 - 1)) = ji1_ := (i64_w _).trans hji1_
  by_cases c2_ : 0 ≤ ji1_
  · rw [if_pos c2_] at H
    have c2_x := eq_true c2_
    have c2_b0 : decide (0 ≤ ji1_) = true := decide_eq_true c2_
    clear c2_
    obtain ⟨ji3_, hji3_⟩ : ∃ j_ : Int, (shl .i64 1 ji1_) = j_ := ⟨_, rfl⟩
    replace H : (some (Go.bits .or .i64 a0 ji3_)) = some r := by first | (rw [hji3_] at H; exact H) | (simp only [hji3_] at H ⊢; exact H)
    have hji3__ : (IntKind.i64.wrap (1 * 2 ^ min (ji1_).toNat 64)) = ji3_ := hji3_
    have hji3_z : (ji1_) ≤ 64 → (IntKind.i64.wrap (1 * 2 ^ (ji1_).toNat)) = ji3_ := shl_small hji3_
    have hji3_u : (IntKind.i64.wrap (2 ^ min (ji1_).toNat 64)) = ji3_ := by have h_ := hji3__; rw [Int.one_mul] at h_; exact h_
    have hji3_v : (ji1_) ≤ 64 → (IntKind.i64.wrap (2 ^ (ji1_).toNat)) = ji3_ := fun hle_ => by have h_ := hji3_z hle_; rw [Int.one_mul] at h_; exact h_
    have hji3_y : (wrap64 (1 * 2 ^ min (ji1_).toNat 64)) = ji3_ := (i64_w _).symm.trans hji3__
    have hji3_x : (ji1_) ≤ 64 → (wrap64 (1 * 2 ^ (ji1_).toNat)) = ji3_ := fun h_ => (i64_w _).symm.trans (hji3_z h_)
    obtain rfl := Option.some.inj H
    go_enter Try.func32, Try.ntmps32
    go_wp2
    go_ret
    exact ⟨by first | rfl | (simp; done) | (simp only [← hji1_, ← hji3_] <;> (first | rfl | simp)) | (simp [*]; done), HD.out⟩
  · rw [if_neg c2_] at H
    have c2_b0 : decide (0 ≤ ji1_) = false := decide_eq_false c2_
    clear c2_
    exact absurd H (by simp)

/-! ### spec_PlayNails: function 10 -/
def spec_PlayNails.l0 : Nat → (List Int) → (Int) → (Int) → (List Int) → (Int) → Option (Int × Int × Bool)
  | 0, _, _, _, _, _ => none
  | k + 1, x0, x1, x2, x3, x11 => if x11 < (x3.length : Int) then (if 0 ≤ x11 then ((spec_l1In.f (rd x3 x11) 1 x1).bind fun t122 => (if t122 = true then ((spec_l3In.f x2 (rd x3 x11)).bind fun t124 => (if t124 = true then (some (x2, x11, true)) else ((spec_l3Falls.f k x0 x2).bind fun t125 => (if t125 = true then (some (x2, x11, true)) else ((spec_l9Out.f x2 (rd x3 x11)).bind fun t127 => (spec_PlayNails.l0 k x0 x1 t127 x3 (wrap64 (x11 + 1)))))))) else (some (x2, x11, true)))) else (none)) else (some (x2, (x3.length : Int), true))
def spec_PlayNails.f (k : Nat) (l0 : List Int) (a1 : Int) (a2 : Int) (l3 : List Int) : Option (Int × Int × Bool) := (spec_l9Good.f k l0 a1 a2).bind fun t120 => (if t120 = true then (spec_PlayNails.l0 k l0 a1 a2 l3 0) else (some (0, 0, false)))
set_option maxHeartbeats 8000000 in
set_option maxRecDepth 100000 in
theorem spec_PlayNails.calls (k : Nat) (A0 : Option Addr) (c0 : Nat) (l0 : List Int) (a1 : Int) (a2 : Int) (A3 : Option Addr) (c3 : Nat) (l3 : List Int) (r1 : Int) (r2 : Int) (r3 : Bool) (w : World) (hr0 : Kd.C (Kd.int .i64) w A0 l0.length l0) (hc0 : l0.length ≤ c0) (hr3 : Kd.C (Kd.int .i64) w A3 l3.length l3) (hc3 : l3.length ≤ c3) (h : spec_PlayNails.f k l0 a1 a2 l3 = some (r1, r2, r3)) :
    Calls Try.prog 10 #[.slice A0 l0.length c0, .int .i64 a1, .int .i64 a2, .slice A3 l3.length c3] w fun e w' => e = .returned (.tuple #[.int .i64 r1, .int .i64 r2, .bool r3]) ∧ Below w.heap.size w w' := by
  have HR0 := Aside0.mk hr0
  have HC0 := Aside0.mk hc0
  clear hr0 hc0
  have HR3 := Aside0.mk hr3
  have HC3 := Aside0.mk hc3
  clear hr3 hc3
  have hu22 := Try.underlying22
  have HM := Aside0.mk (MS.start w)
  have H : ((spec_l9Good.f k l0 a1 a2).bind fun t120 => (if t120 = true then (spec_PlayNails.l0 k l0 a1 a2 l3 0) else (some (0, 0, false)))) = some (r1, r2, r3) := h
  clear h
  replace H := Option.bind_eq_some_iff.mp H
  obtain ⟨t120, A1_0, H⟩ := H
  replace H : (if t120 = true then (spec_PlayNails.l0 k l0 a1 a2 l3 0) else (some (0, 0, false))) = some (r1, r2, r3) := H
  have A1_ := Aside0.mk A1_0
  clear A1_0
  by_cases c2_ : t120 = true
  · subst c2_
    have H1 : (spec_PlayNails.l0 k l0 a1 a2 l3 0) = some (r1, r2, r3) := by rw [if_pos rfl] at H; exact H
    clear H
    have H := H1
    clear H1
    have H' := Aside0.mk H
    clear H
    go_enter Try.func10, Try.ntmps10
    go_wp2_with (first | ((with_reducible refine gate_callee (f := 28) rfl ?_); (with_reducible refine gate_dst (N := 15) rfl ?_); refine goesL_ (some 15) rfl rfl Try.func28 (by kernel_rfl) rfl #[.slice A0 l0.length c0, .int .i64 a1, .int .i64 a2] rfl (by (try simp only [List.map_toArray, List.map_cons, List.map_nil]); first | done | rfl | (simp only [List.length_drop, List.length_take]; rfl)) ?_; (with_reducible refine (spec_l9Good.calls k _ _ l0 a1 a2 true _ ?sd0 ?sd1 A1_.out).mono ?_); (case sd0 => exact (Kd.C_below HR0.out HM.out.below)); (case sd1 => exact HC0.out); rintro e_ w3_ ⟨rfl, hb⟩; refine ⟨_, rfl, ?_⟩; have n_ := Aside0.mk (HM.out.step hb); clear HM; have HM := n_; clear n_; clear hb))
    go_loopg [2, 11] k (fun kq v2 v11 w' => ∃ (x2_4 : Int) (x11_4 : Int), v2 = .int .i64 x2_4 ∧ v11 = .int .i64 x11_4 ∧ Aside0 (spec_PlayNails.l0 kq l0 a1 x2_4 l3 x11_4 = some (r1, r2, r3)) ∧ Aside0 (kq ≤ k) ∧ Aside0 (MS w w' []))
    case atStart => exact ⟨(a2), (0), (by first | rfl | (simp; done) | (simp [*]; done)), (by first | rfl | (simp; done) | (simp [*]; done)), H', ⟨Nat.le_refl _⟩, HM⟩
    case round =>
      clear H'
      clear HM
      obtain ⟨x2_4, x11_4, rfl, rfl, HA, HK5_, HM⟩ := hrel
      cases gk with
      | zero => exact absurd HA.out (by simp [spec_PlayNails.l0])
      | succ k6_ =>
        have H := HA.out
        clear HA
        simp only [spec_PlayNails.l0] at H
        by_cases c7_ : x11_4 < (l3.length : Int)
        · rw [if_pos c7_] at H
          have c7_b0 : decide (x11_4 < (l3.length : Int)) = true := decide_eq_true c7_
          clear c7_
          by_cases c8_ : 0 ≤ x11_4
          · rw [if_pos c8_] at H
            have c8_b0 : decide (0 ≤ x11_4) = true := decide_eq_true c8_
            clear c8_
            replace H := Option.bind_eq_some_iff.mp H
            obtain ⟨t122, A9_0, H⟩ := H
            replace H : (if t122 = true then ((spec_l3In.f x2_4 (rd l3 x11_4)).bind fun t124 => (if t124 = true then (some (x2_4, x11_4, true)) else ((spec_l3Falls.f k6_ l0 x2_4).bind fun t125 => (if t125 = true then (some (x2_4, x11_4, true)) else ((spec_l9Out.f x2_4 (rd l3 x11_4)).bind fun t127 => (spec_PlayNails.l0 k6_ l0 a1 t127 l3 (wrap64 (x11_4 + 1)))))))) else (some (x2_4, x11_4, true))) = some (r1, r2, r3) := H
            have A9_ := Aside0.mk A9_0
            clear A9_0
            by_cases c10_ : t122 = true
            · subst c10_
              have H1 : ((spec_l3In.f x2_4 (rd l3 x11_4)).bind fun t124 => (if t124 = true then (some (x2_4, x11_4, true)) else ((spec_l3Falls.f k6_ l0 x2_4).bind fun t125 => (if t125 = true then (some (x2_4, x11_4, true)) else ((spec_l9Out.f x2_4 (rd l3 x11_4)).bind fun t127 => (spec_PlayNails.l0 k6_ l0 a1 t127 l3 (wrap64 (x11_4 + 1)))))))) = some (r1, r2, r3) := by rw [if_pos rfl] at H; exact H
              clear H
              have H := H1
              clear H1
              replace H := Option.bind_eq_some_iff.mp H
              obtain ⟨t124, A11_0, H⟩ := H
              replace H : (if t124 = true then (some (x2_4, x11_4, true)) else ((spec_l3Falls.f k6_ l0 x2_4).bind fun t125 => (if t125 = true then (some (x2_4, x11_4, true)) else ((spec_l9Out.f x2_4 (rd l3 x11_4)).bind fun t127 => (spec_PlayNails.l0 k6_ l0 a1 t127 l3 (wrap64 (x11_4 + 1))))))) = some (r1, r2, r3) := H
              have A11_ := Aside0.mk A11_0
              clear A11_0
              by_cases c12_ : t124 = true
              · subst c12_
                have H1 : (some (x2_4, x11_4, true)) = some (r1, r2, r3) := by rw [if_pos rfl] at H; exact H
                clear H
                have H := H1
                clear H1
                simp only [Option.some.injEq, Prod.mk.injEq] at H
                obtain ⟨rfl, rfl, rfl⟩ := H
                have p121 : 0 ≤ (x11_4 : Int) := of_decide_eq_true (by first | (with_reducible assumption) | assumption)
                have q121 : (x11_4 : Int) < (l3.length : Int) := of_decide_eq_true (by first | (with_reducible assumption) | assumption)
                obtain ⟨ad121, e121, hx121⟩ := Kd.at_int HR3.out x11_4 p121 q121
                cases e121
                replace hx121 := (HM.out.below.cell (World.block_lt_of_cell? w _ hx121)).trans hx121
                replace p121 := eq_true p121
                replace q121 := eq_true q121
                go_wp2_with (first | ((with_reducible refine gate_callee (f := 29) rfl ?_); (with_reducible refine gate_dst (N := 28) rfl ?_); refine goesL_ (some 28) rfl rfl Try.func29 (by kernel_rfl) rfl #[.int .i64 (rd l3 x11_4), .int .i64 1, .int .i64 a1] rfl (by (try simp only [List.map_toArray, List.map_cons, List.map_nil]); first | done | rfl | (simp only [List.length_drop, List.length_take]; rfl)) ?_; (with_reducible refine (spec_l1In.calls (rd l3 x11_4) 1 a1 true _  A9_.out).mono ?_); rintro e_ w13_ ⟨rfl, hd_⟩; refine ⟨_, rfl, ?_⟩; have hb := hd_.below; clear hd_; have n_ := Aside0.mk (HM.out.step hb); clear HM; have HM := n_; clear n_; clear hb; have p123 : 0 ≤ (x11_4 : Int) := of_decide_eq_true (by first | (with_reducible assumption) | assumption); have q123 : (x11_4 : Int) < (l3.length : Int) := of_decide_eq_true (by first | (with_reducible assumption) | assumption); obtain ⟨ad123, e123, hx123⟩ := Kd.at_int HR3.out x11_4 p123 q123; obtain rfl : ad121 = ad123 := (by injection e123); replace hx123 := (HM.out.below.cell (World.block_lt_of_cell? w _ hx123)).trans hx123; replace p123 := eq_true p123; replace q123 := eq_true q123) | (go_at_call 30; (refine calls_of_args (args' := #[.int .i64 x2_4, .int .i64 (rd l3 x11_4)]) (by first | done | rfl) ?_); (with_reducible refine (spec_l3In.calls x2_4 (rd l3 x11_4) true _  A11_.out).mono ?_); rintro e_ w14_ ⟨rfl, hd_⟩; have hb := hd_.below; clear hd_; have n_ := Aside0.mk (HM.out.step hb); clear HM; have HM := n_; clear n_; clear hb))
                go_ret3
                exact ⟨by first | rfl | (simp; done) | (simp [*]; done), HM.out.below⟩
              · replace c12_ := Bool.eq_false_iff.mpr c12_
                subst c12_
                have H1 : ((spec_l3Falls.f k6_ l0 x2_4).bind fun t125 => (if t125 = true then (some (x2_4, x11_4, true)) else ((spec_l9Out.f x2_4 (rd l3 x11_4)).bind fun t127 => (spec_PlayNails.l0 k6_ l0 a1 t127 l3 (wrap64 (x11_4 + 1)))))) = some (r1, r2, r3) := by rw [if_neg (show ¬ (false = true) by decide)] at H; exact H
                clear H
                have H := H1
                clear H1
                replace H := Option.bind_eq_some_iff.mp H
                obtain ⟨t125, A15_0, H⟩ := H
                replace H : (if t125 = true then (some (x2_4, x11_4, true)) else ((spec_l9Out.f x2_4 (rd l3 x11_4)).bind fun t127 => (spec_PlayNails.l0 k6_ l0 a1 t127 l3 (wrap64 (x11_4 + 1))))) = some (r1, r2, r3) := H
                have A15_ := Aside0.mk A15_0
                clear A15_0
                by_cases c16_ : t125 = true
                · subst c16_
                  have H1 : (some (x2_4, x11_4, true)) = some (r1, r2, r3) := by rw [if_pos rfl] at H; exact H
                  clear H
                  have H := H1
                  clear H1
                  simp only [Option.some.injEq, Prod.mk.injEq] at H
                  obtain ⟨rfl, rfl, rfl⟩ := H
                  have p121 : 0 ≤ (x11_4 : Int) := of_decide_eq_true (by first | (with_reducible assumption) | assumption)
                  have q121 : (x11_4 : Int) < (l3.length : Int) := of_decide_eq_true (by first | (with_reducible assumption) | assumption)
                  obtain ⟨ad121, e121, hx121⟩ := Kd.at_int HR3.out x11_4 p121 q121
                  cases e121
                  replace hx121 := (HM.out.below.cell (World.block_lt_of_cell? w _ hx121)).trans hx121
                  replace p121 := eq_true p121
                  replace q121 := eq_true q121
                  go_wp2_with (first | ((with_reducible refine gate_callee (f := 29) rfl ?_); (with_reducible refine gate_dst (N := 28) rfl ?_); refine goesL_ (some 28) rfl rfl Try.func29 (by kernel_rfl) rfl #[.int .i64 (rd l3 x11_4), .int .i64 1, .int .i64 a1] rfl (by (try simp only [List.map_toArray, List.map_cons, List.map_nil]); first | done | rfl | (simp only [List.length_drop, List.length_take]; rfl)) ?_; (with_reducible refine (spec_l1In.calls (rd l3 x11_4) 1 a1 true _  A9_.out).mono ?_); rintro e_ w17_ ⟨rfl, hd_⟩; refine ⟨_, rfl, ?_⟩; have hb := hd_.below; clear hd_; have n_ := Aside0.mk (HM.out.step hb); clear HM; have HM := n_; clear n_; clear hb; have p123 : 0 ≤ (x11_4 : Int) := of_decide_eq_true (by first | (with_reducible assumption) | assumption); have q123 : (x11_4 : Int) < (l3.length : Int) := of_decide_eq_true (by first | (with_reducible assumption) | assumption); obtain ⟨ad123, e123, hx123⟩ := Kd.at_int HR3.out x11_4 p123 q123; obtain rfl : ad121 = ad123 := (by injection e123); replace hx123 := (HM.out.below.cell (World.block_lt_of_cell? w _ hx123)).trans hx123; replace p123 := eq_true p123; replace q123 := eq_true q123) | (go_at_call 30; (refine calls_of_args (args' := #[.int .i64 x2_4, .int .i64 (rd l3 x11_4)]) (by first | done | rfl) ?_); (with_reducible refine (spec_l3In.calls x2_4 (rd l3 x11_4) false _  A11_.out).mono ?_); rintro e_ w18_ ⟨rfl, hd_⟩; have hb := hd_.below; clear hd_; have n_ := Aside0.mk (HM.out.step hb); clear HM; have HM := n_; clear n_; clear hb) | (go_at_call 31; (refine calls_of_args (args' := #[.slice A0 l0.length c0, .int .i64 x2_4]) (by first | done | rfl) ?_); (with_reducible refine (spec_l3Falls.calls k6_ _ _ l0 x2_4 true _ ?sd0 ?sd1 A15_.out).mono ?_); (case sd0 => exact (Kd.C_below HR0.out HM.out.below)); (case sd1 => exact HC0.out); rintro e_ w19_ ⟨rfl, hb⟩; have n_ := Aside0.mk (HM.out.step hb); clear HM; have HM := n_; clear n_; clear hb))
                  go_ret3
                  exact ⟨by first | rfl | (simp; done) | (simp [*]; done), HM.out.below⟩
                · replace c16_ := Bool.eq_false_iff.mpr c16_
                  subst c16_
                  have H1 : ((spec_l9Out.f x2_4 (rd l3 x11_4)).bind fun t127 => (spec_PlayNails.l0 k6_ l0 a1 t127 l3 (wrap64 (x11_4 + 1)))) = some (r1, r2, r3) := by rw [if_neg (show ¬ (false = true) by decide)] at H; exact H
                  clear H
                  have H := H1
                  clear H1
                  replace H := Option.bind_eq_some_iff.mp H
                  obtain ⟨t127, A20_0, H⟩ := H
                  replace H : (spec_PlayNails.l0 k6_ l0 a1 t127 l3 (wrap64 (x11_4 + 1))) = some (r1, r2, r3) := H
                  have A20_ := Aside0.mk A20_0
                  clear A20_0
                  have H' := Aside0.mk H
                  clear H
                  have p121 : 0 ≤ (x11_4 : Int) := of_decide_eq_true (by first | (with_reducible assumption) | assumption)
                  have q121 : (x11_4 : Int) < (l3.length : Int) := of_decide_eq_true (by first | (with_reducible assumption) | assumption)
                  obtain ⟨ad121, e121, hx121⟩ := Kd.at_int HR3.out x11_4 p121 q121
                  cases e121
                  replace hx121 := (HM.out.below.cell (World.block_lt_of_cell? w _ hx121)).trans hx121
                  replace p121 := eq_true p121
                  replace q121 := eq_true q121
                  go_wp2_with (first | ((with_reducible refine gate_callee (f := 29) rfl ?_); (with_reducible refine gate_dst (N := 28) rfl ?_); refine goesL_ (some 28) rfl rfl Try.func29 (by kernel_rfl) rfl #[.int .i64 (rd l3 x11_4), .int .i64 1, .int .i64 a1] rfl (by (try simp only [List.map_toArray, List.map_cons, List.map_nil]); first | done | rfl | (simp only [List.length_drop, List.length_take]; rfl)) ?_; (with_reducible refine (spec_l1In.calls (rd l3 x11_4) 1 a1 true _  A9_.out).mono ?_); rintro e_ w21_ ⟨rfl, hd_⟩; refine ⟨_, rfl, ?_⟩; have hb := hd_.below; clear hd_; have n_ := Aside0.mk (HM.out.step hb); clear HM; have HM := n_; clear n_; clear hb; have p123 : 0 ≤ (x11_4 : Int) := of_decide_eq_true (by first | (with_reducible assumption) | assumption); have q123 : (x11_4 : Int) < (l3.length : Int) := of_decide_eq_true (by first | (with_reducible assumption) | assumption); obtain ⟨ad123, e123, hx123⟩ := Kd.at_int HR3.out x11_4 p123 q123; obtain rfl : ad121 = ad123 := (by injection e123); replace hx123 := (HM.out.below.cell (World.block_lt_of_cell? w _ hx123)).trans hx123; replace p123 := eq_true p123; replace q123 := eq_true q123) | (go_at_call 30; (refine calls_of_args (args' := #[.int .i64 x2_4, .int .i64 (rd l3 x11_4)]) (by first | done | rfl) ?_); (with_reducible refine (spec_l3In.calls x2_4 (rd l3 x11_4) false _  A11_.out).mono ?_); rintro e_ w22_ ⟨rfl, hd_⟩; have hb := hd_.below; clear hd_; have n_ := Aside0.mk (HM.out.step hb); clear HM; have HM := n_; clear n_; clear hb) | (go_at_call 31; (refine calls_of_args (args' := #[.slice A0 l0.length c0, .int .i64 x2_4]) (by first | done | rfl) ?_); (with_reducible refine (spec_l3Falls.calls k6_ _ _ l0 x2_4 false _ ?sd0 ?sd1 A15_.out).mono ?_); (case sd0 => exact (Kd.C_below HR0.out HM.out.below)); (case sd1 => exact HC0.out); rintro e_ w23_ ⟨rfl, hb⟩; have n_ := Aside0.mk (HM.out.step hb); clear HM; have HM := n_; clear n_; clear hb; have p126 : 0 ≤ (x11_4 : Int) := of_decide_eq_true (by first | (with_reducible assumption) | assumption); have q126 : (x11_4 : Int) < (l3.length : Int) := of_decide_eq_true (by first | (with_reducible assumption) | assumption); obtain ⟨ad126, e126, hx126⟩ := Kd.at_int HR3.out x11_4 p126 q126; obtain rfl : ad121 = ad126 := (by injection e126); replace hx126 := (HM.out.below.cell (World.block_lt_of_cell? w _ hx126)).trans hx126; replace p126 := eq_true p126; replace q126 := eq_true q126) | ((with_reducible refine gate_callee (f := 32) rfl ?_); (with_reducible refine gate_dst (N := 50) rfl ?_); refine goesL_ (some 50) rfl rfl Try.func32 (by kernel_rfl) rfl #[.int .i64 x2_4, .int .i64 (rd l3 x11_4)] rfl (by (try simp only [List.map_toArray, List.map_cons, List.map_nil]); first | done | rfl | (simp only [List.length_drop, List.length_take]; rfl)) ?_; (with_reducible refine (spec_l9Out.calls x2_4 (rd l3 x11_4) t127 _  A20_.out).mono ?_); rintro e_ w24_ ⟨rfl, hd_⟩; refine ⟨_, rfl, ?_⟩; have hb := hd_.below; clear hd_; have n_ := Aside0.mk (HM.out.step hb); clear HM; have HM := n_; clear n_; clear hb))
                  go_roundg k6_
                  case measure => have hHK5__ := HK5_.out; omega
                  case rel => exact ⟨(t127), (wrap64 (x11_4 + 1)), (by first | rfl | (simp; done) | (simp [*]; done)), (by first | rfl | (simp; done) | (simp [*]; done)), H', ⟨by have hHK5__ := HK5_.out; omega⟩, HM⟩
            · replace c10_ := Bool.eq_false_iff.mpr c10_
              subst c10_
              have H1 : (some (x2_4, x11_4, true)) = some (r1, r2, r3) := by rw [if_neg (show ¬ (false = true) by decide)] at H; exact H
              clear H
              have H := H1
              clear H1
              simp only [Option.some.injEq, Prod.mk.injEq] at H
              obtain ⟨rfl, rfl, rfl⟩ := H
              have p121 : 0 ≤ (x11_4 : Int) := of_decide_eq_true (by first | (with_reducible assumption) | assumption)
              have q121 : (x11_4 : Int) < (l3.length : Int) := of_decide_eq_true (by first | (with_reducible assumption) | assumption)
              obtain ⟨ad121, e121, hx121⟩ := Kd.at_int HR3.out x11_4 p121 q121
              cases e121
              replace hx121 := (HM.out.below.cell (World.block_lt_of_cell? w _ hx121)).trans hx121
              replace p121 := eq_true p121
              replace q121 := eq_true q121
              go_wp2_with (first | ((with_reducible refine gate_callee (f := 29) rfl ?_); (with_reducible refine gate_dst (N := 28) rfl ?_); refine goesL_ (some 28) rfl rfl Try.func29 (by kernel_rfl) rfl #[.int .i64 (rd l3 x11_4), .int .i64 1, .int .i64 a1] rfl (by (try simp only [List.map_toArray, List.map_cons, List.map_nil]); first | done | rfl | (simp only [List.length_drop, List.length_take]; rfl)) ?_; (with_reducible refine (spec_l1In.calls (rd l3 x11_4) 1 a1 false _  A9_.out).mono ?_); rintro e_ w25_ ⟨rfl, hd_⟩; refine ⟨_, rfl, ?_⟩; have hb := hd_.below; clear hd_; have n_ := Aside0.mk (HM.out.step hb); clear HM; have HM := n_; clear n_; clear hb))
              go_ret3
              exact ⟨by first | rfl | (simp; done) | (simp [*]; done), HM.out.below⟩
          · rw [if_neg c8_] at H
            have c8_b0 : decide (0 ≤ x11_4) = false := decide_eq_false c8_
            clear c8_
            exact absurd H (by simp)
        · rw [if_neg c7_] at H
          have c7_b0 : decide (x11_4 < (l3.length : Int)) = false := decide_eq_false c7_
          clear c7_
          simp only [Option.some.injEq, Prod.mk.injEq] at H
          obtain ⟨rfl, rfl, rfl⟩ := H
          go_wp2
          go_ret3
          exact ⟨by first | rfl | (simp; done) | (simp [*]; done), HM.out.below⟩
  · replace c2_ := Bool.eq_false_iff.mpr c2_
    subst c2_
    have H1 : (some (0, 0, false)) = some (r1, r2, r3) := by rw [if_neg (show ¬ (false = true) by decide)] at H; exact H
    clear H
    have H := H1
    clear H1
    simp only [Option.some.injEq, Prod.mk.injEq] at H
    obtain ⟨rfl, rfl, rfl⟩ := H
    go_enter Try.func10, Try.ntmps10
    go_wp2_with (first | ((with_reducible refine gate_callee (f := 28) rfl ?_); (with_reducible refine gate_dst (N := 15) rfl ?_); refine goesL_ (some 15) rfl rfl Try.func28 (by kernel_rfl) rfl #[.slice A0 l0.length c0, .int .i64 a1, .int .i64 a2] rfl (by (try simp only [List.map_toArray, List.map_cons, List.map_nil]); first | done | rfl | (simp only [List.length_drop, List.length_take]; rfl)) ?_; (with_reducible refine (spec_l9Good.calls k _ _ l0 a1 a2 false _ ?sd0 ?sd1 A1_.out).mono ?_); (case sd0 => exact (Kd.C_below HR0.out HM.out.below)); (case sd1 => exact HC0.out); rintro e_ w26_ ⟨rfl, hb⟩; refine ⟨_, rfl, ?_⟩; have n_ := Aside0.mk (HM.out.step hb); clear HM; have HM := n_; clear n_; clear hb))
    go_ret3
    exact ⟨by first | rfl | (simp; done) | (simp [*]; done), HM.out.below⟩

/-! ### spec_l3Table: function 36 -/
def spec_l3Table.l0 : Nat → (List Int) → (Int) → (List Bool) → Option (List Bool)
  | 0, _, _, _ => none
  | k + 1, x0, x4, m2 => if x4 < 64 then ((spec_l3Falls.f k x0 x4).bind fun t128 => (if 0 ≤ x4 then (spec_l3Table.l0 k x0 (wrap64 (x4 + 1)) (m2.set (x4 : Int).toNat t128)) else (none))) else (some m2)
def spec_l3Table.f (k : Nat) (l0 : List Int) : Option (List Bool) := spec_l3Table.l0 k l0 0 (List.replicate 64 false)
set_option maxHeartbeats 8000000 in
set_option maxRecDepth 100000 in
theorem spec_l3Table.calls (k : Nat) (A0 : Option Addr) (c0 : Nat) (l0 : List Int) (r : List Bool) (w : World) (hr0 : Kd.C (Kd.int .i64) w A0 l0.length l0) (hc0 : l0.length ≤ c0) (h : spec_l3Table.f k l0 = some r) :
    Calls Try.prog 36 #[.slice A0 l0.length c0] w fun e w' => e = .returned (.agg (bcs r)) ∧ r.length = 64 ∧ Below w.heap.size w w' := by
  have HR0 := Aside0.mk hr0
  have HC0 := Aside0.mk hc0
  clear hr0 hc0
  have hu44 := Try.underlying44
  have HM := Aside0.mk (MS.start w)
  have H : (spec_l3Table.l0 k l0 0 (List.replicate 64 false)) = some r := h
  clear h
  have H' := Aside0.mk H
  clear H
  go_enter Try.func36, Try.ntmps36
  go_wp2_with (first | ((with_reducible refine gate_dst (N := 2) rfl ?_); refine box_event ?hg (N := 2) ?hd (cs := (bcs (List.replicate 64 false))) (t := 44) ?hr ?_; (case hd => rfl); (case hg => rfl); (case hr => first | (go_simp; done) | (go_simp; rfl)); intro gb1 hg w1_ hbox hb; have n_ := Aside0.mk (HM.out.addBox hb hbox hg); clear HM; have HM := n_; clear n_; clear hb hbox hg) | ((with_reducible refine gate_dst (N := 5) rfl ?_); refine build_zero ?hg (N := 5) ?hd (cs := (bcs (List.replicate 64 false))) ?hr ?_; (case hd => rfl); (case hg => rfl); (case hr => first | (go_simp; done) | (go_simp; rfl))) | ((with_reducible refine gate_dst (N := 3) rfl ?_); refine box_event ?hg (N := 3) ?hd (cs := (bcs (List.replicate 64 false))) (t := 44) ?hr ?_; (case hd => rfl); (case hg => rfl); (case hr => first | (go_simp; done) | (go_simp; rfl)); intro gb2 hg w2_ hbox hb; have n_ := Aside0.mk (HM.out.addBox hb hbox hg); clear HM; have HM := n_; clear n_; clear hb hbox hg) | ((with_reducible refine gate_store (t := 44) (p := 3) rfl ?_); refine wpList_store_row rfl _ _ _ rfl gb2 (bcs (List.replicate 64 false)) rfl rfl 44 (bcs (List.replicate 64 false)) (HM.out.box 0 rfl) (by rw [bcs_size, (List.length_replicate)]; kernel_rfl) ((bcs_size _).trans (((List.length_replicate)).trans ((show _ = 64 from (List.length_replicate)).symm.trans (bcs_size _).symm))) (bcs_one _) ?_; generalize hw : World.setRow _ _ _ = w3_; have n_ : Aside0 (MS w w3_ [.box gb2 44 (bcs (List.replicate 64 false)), .box gb1 44 (bcs (List.replicate 64 false))]) := ⟨by rw [← hw]; exact HM.out.setRow 0 rfl _⟩; clear HM hw; have HM := n_; clear n_))
  go_loopg [4] k (fun kq v4 w' => ∃ (x4_4 : Int) (m2_4 : List Bool), v4 = .int .i64 x4_4 ∧ Aside0 (spec_l3Table.l0 kq l0 x4_4 m2_4 = some r) ∧ Aside0 (kq ≤ k) ∧ Aside0 (m2_4.length = 64) ∧ Aside0 (MS w w' [.box gb2 44 (bcs m2_4), .box gb1 44 (bcs (List.replicate 64 false))]))
  case atStart => exact ⟨(0), ((List.replicate 64 false)), (by first | rfl | (simp; done) | (simp [*]; done)), H', ⟨Nat.le_refl _⟩, ⟨(List.length_replicate)⟩, HM⟩
  case round =>
    clear H'
    clear HM
    obtain ⟨x4_4, m2_4, rfl, HA, HK5_, HLm2_4, HM⟩ := hrel
    cases gk with
    | zero => exact absurd HA.out (by simp [spec_l3Table.l0])
    | succ k6_ =>
      have H := HA.out
      clear HA
      simp only [spec_l3Table.l0] at H
      by_cases c7_ : x4_4 < 64
      · rw [if_pos c7_] at H
        have c7_b0 : decide (x4_4 < 64) = true := decide_eq_true c7_
        clear c7_
        replace H := Option.bind_eq_some_iff.mp H
        obtain ⟨t128, A8_0, H⟩ := H
        replace H : (if 0 ≤ x4_4 then (spec_l3Table.l0 k6_ l0 (wrap64 (x4_4 + 1)) (m2_4.set (x4_4 : Int).toNat t128)) else (none)) = some r := H
        have A8_ := Aside0.mk A8_0
        clear A8_0
        by_cases c9_ : 0 ≤ x4_4
        · rw [if_pos c9_] at H
          have c9_b0 : decide (0 ≤ x4_4) = true := decide_eq_true c9_
          clear c9_
          obtain ⟨y129, hy129⟩ : ∃ y_, y_ = (m2_4.set (x4_4 : Int).toNat t128) := ⟨_, rfl⟩
          replace H : (spec_l3Table.l0 k6_ l0 (wrap64 (x4_4 + 1)) y129) = some r := by first | (rw [hy129]; with_reducible exact H) | (have H2_ := (Option.bind_some _ _).symm.trans H; rw [hy129]; with_reducible exact H2_) | (have H2_ := (Option.bind_some _ _).symm.trans H; with_reducible exact H2_) | with_reducible exact H | (rw [hy129]; exact H) | exact H
          have Ny129 := Aside0.mk hy129
          clear hy129
          have H' := Aside0.mk H
          clear H
          go_wp2_with (first | ((with_reducible refine gate_callee (f := 31) rfl ?_); (with_reducible refine gate_dst (N := 13) rfl ?_); refine goesL_ (some 13) rfl rfl Try.func31 (by kernel_rfl) rfl #[.slice A0 l0.length c0, .int .i64 x4_4] rfl (by (try simp only [List.map_toArray, List.map_cons, List.map_nil]); first | done | rfl | (simp only [List.length_drop, List.length_take]; rfl)) ?_; (with_reducible refine (spec_l3Falls.calls k6_ _ _ l0 x4_4 t128 _ ?sd0 ?sd1 A8_.out).mono ?_); (case sd0 => exact (Kd.C_below HR0.out HM.out.below)); (case sd1 => exact HC0.out); rintro e_ w10_ ⟨rfl, hb⟩; refine ⟨_, rfl, ?_⟩; have n_ := Aside0.mk (HM.out.step hb); clear HM; have HM := n_; clear n_; clear hb; have p130 : 0 ≤ (x4_4 : Int) := of_decide_eq_true (by first | (with_reducible assumption) | assumption); have q130 : (x4_4 : Int) < 64 := of_decide_eq_true (by first | (with_reducible assumption) | assumption); have hx130 := bcell (HM.out.box 0 rfl) x4_4 p130 (by have := HLm2_4.out; omega); have hf130 := blk_frozen (HM.out.box 0 rfl) (x4_4 : Int).toNat; replace p130 := eq_true p130; replace q130 := eq_true q130) | ((with_reducible refine gate_store (t := 4) (p := 14) rfl ?_); refine store_event (t := 4) (p := 14) (v := ?vow11_) (w1 := (w10_.setCell ⟨gb2, (x4_4 : Int).toNat, none⟩ (.bool t128))) ?hg ?ho ?hn ?hr ?_; (case ho => rfl); (case hg => rfl); (case hn => rfl); (case hr => first | (go_simp; done) | (go_simp; rfl)); intro w11_ hw; have n_ : Aside0 (MS w w11_ [.box gb2 44 (bcs y129), .box gb1 44 (bcs (List.replicate 64 false))]) := ⟨by rw [hw]; exact HM.out.setBox 0 rfl _ _ (by rw [bcs_set, ← Ny129.out])⟩; clear HM hw; have HM := n_; clear n_))
          go_roundg k6_
          case measure => have hHK5__ := HK5_.out; omega
          case rel => exact ⟨(wrap64 (x4_4 + 1)), (y129), (by first | rfl | (simp; done) | (simp [*]; done)), H', ⟨by have hHK5__ := HK5_.out; omega⟩, ⟨(by rw [Ny129.out, List.length_set]; exact HLm2_4.out)⟩, HM⟩
        · rw [if_neg c9_] at H
          have c9_b0 : decide (0 ≤ x4_4) = false := decide_eq_false c9_
          clear c9_
          exact absurd H (by simp)
      · rw [if_neg c7_] at H
        have c7_b0 : decide (x4_4 < 64) = false := decide_eq_false c7_
        clear c7_
        obtain rfl := Option.some.inj H
        go_wp2_with (first | ((with_reducible refine gate_dst (N := 15) rfl ?_); refine wpList_load_row rfl _ _ rfl gb2 rfl 44 (bcs m2_4) (0, 0) _ (HM.out.box 0 rfl) Try.underlying44 rfl (by rw [bcs_size, HLm2_4.out]; kernel_rfl) ?_) | ((with_reducible refine gate_store (t := 44) (p := 2) rfl ?_); refine wpList_store_row rfl _ _ _ rfl gb1 (bcs m2_4) rfl rfl 44 (bcs (List.replicate 64 false)) (HM.out.box 1 rfl) (by rw [bcs_size, HLm2_4.out]; kernel_rfl) ((bcs_size _).trans (((List.length_replicate)).trans ((show _ = 64 from HLm2_4.out).symm.trans (bcs_size _).symm))) (bcs_one _) ?_; generalize hw : World.setRow _ _ _ = w12_; have n_ : Aside0 (MS w w12_ [.box gb2 44 (bcs m2_4), .box gb1 44 (bcs m2_4)]) := ⟨by rw [← hw]; exact HM.out.setRow 1 rfl _⟩; clear HM hw; have HM := n_; clear n_))
        refine bodyPost_ret (results_cell_row rfl _ _ gb1 44 (bcs m2_4) (0, 0) _ rfl (HM.out.box 1 rfl) Try.underlying44 rfl (by rw [bcs_size, HLm2_4.out]; kernel_rfl)) rfl ?_
        exact ⟨by first | rfl | (simp; done) | (simp [*]; done), HLm2_4.out, HM.out.below⟩

/-! ### spec_l9Drop: function 35 -/
mutual
def spec_l9Drop.l0 : Nat → (Int) → (Int) → (Int) → (List Int) → (List Bool) → Option (Bool)
  | 0, _, _, _, _, _ => none
  | k + 1, x1, x2, x8, m2, m1 => if x8 < (m2.length : Int) then (if 0 ≤ x8 then ((spec_l9Out.f x2 (rd m2 x8)).bind fun t133 => (if 0 ≤ t133 then (if t133 < 64 then (if rdOf false m1 t133 = true then (some true) else ((spec_l9Drop.f k m1 x1 t133).bind fun t135 => (if t135 = true then (spec_l9Drop.l0 k x1 x2 (wrap64 (x8 + 1)) m2 m1) else (some true)))) else (none)) else (none))) else (none)) else (some false)
def spec_l9Drop.f : Nat → (List Bool) → (Int) → (Int) → Option (Bool)
  | 0, _, _, _ => none
  | k + 1, l0, a1, a2 => (spec_l9Moves.f k a1 a2).bind fun t131 => (spec_l9Drop.l0 k a1 a2 0 t131 l0)
end
set_option maxHeartbeats 8000000 in
set_option maxRecDepth 100000 in
theorem spec_l9Drop.calls (k : Nat) : ∀ (l0 : List Bool) (a1 : Int) (a2 : Int) (r : Bool) (w : World) (hl0 : l0.length = 64) (h : spec_l9Drop.f k l0 a1 a2 = some r),
    Calls Try.prog 35 #[.agg (bcs l0), .int .i64 a1, .int .i64 a2] w fun e w' => e = .returned (.bool r) ∧ Below w.heap.size w w' := by
  induction k using Nat.strongRecOn with
  | _ k ih =>
  intro l0 a1 a2 r w hl0 h
  cases k with
  | zero => exact absurd h (by simp [spec_l9Drop.f])
  | succ k =>
  simp only [spec_l9Drop.f] at h
  have HL0 := Aside0.mk hl0
  clear hl0
  have hu22 := Try.underlying22
  have hu44 := Try.underlying44
  have HM := Aside0.mk (MS.start w)
  have H : ((spec_l9Moves.f k a1 a2).bind fun t131 => (spec_l9Drop.l0 k a1 a2 0 t131 l0)) = some r := h
  clear h
  replace H := Option.bind_eq_some_iff.mp H
  obtain ⟨t131, A1_0, H⟩ := H
  replace H : (spec_l9Drop.l0 k a1 a2 0 t131 l0) = some r := H
  have A1_ := Aside0.mk A1_0
  clear A1_0
  have H' := Aside0.mk H
  clear H
  go_enter Try.func35, Try.ntmps35
  go_wp2_with (first | ((with_reducible refine gate_dst (N := 3) rfl ?_); refine box_event ?hg (N := 3) ?hd (cs := (bcs l0)) (t := 44) ?hr ?_; (case hd => rfl); (case hg => rfl); (case hr => first | (go_simp; done) | (go_simp; rfl)); intro gb1 hg w2_ hbox hb; have n_ := Aside0.mk (HM.out.addBox hb hbox hg); clear HM; have HM := n_; clear n_; clear hb hbox hg) | ((with_reducible refine gate_callee (f := 39) rfl ?_); (with_reducible refine gate_dst (N := 12) rfl ?_); refine goesL_ (some 12) rfl rfl Try.func39 (by kernel_rfl) rfl #[.int .i64 a1, .int .i64 a2] rfl (by (try simp only [List.map_toArray, List.map_cons, List.map_nil]); first | done | rfl | (simp only [List.length_drop, List.length_take]; rfl)) ?_; (with_reducible refine (spec_l9Moves.calls k a1 a2 t131 _  A1_.out).mono ?_); rintro e_ w3_ ⟨vv0_, rfl, ho0_, hb⟩; refine ⟨_, rfl, ?_⟩; obtain ⟨Ao2_0, co2_0, ev_⟩ := Kd.R_slice ho0_; subst ev_; have n_ := Aside0.mk (HM.out.addR hb ho0_); clear HM; have HM := n_; clear n_; clear hb ho0_))
  go_loopg [8] k (fun kq v8 w' => ∃ (x8_4 : Int), v8 = .int .i64 x8_4 ∧ Aside0 (spec_l9Drop.l0 kq a1 a2 x8_4 t131 l0 = some r) ∧ Aside0 (kq ≤ k) ∧ Aside0 (MS w w' [.row 3 (.slice Ao2_0 t131.length co2_0) (encs (Value.int .i64) t131), .box gb1 44 (bcs l0)]))
  case atStart => exact ⟨(0), (by first | rfl | (simp; done) | (simp [*]; done)), H', ⟨Nat.le_refl _⟩, HM⟩
  case round =>
    clear H'
    clear HM
    obtain ⟨x8_4, rfl, HA, HK5_, HM⟩ := hrel
    cases gk with
    | zero => exact absurd HA.out (by simp [spec_l9Drop.l0])
    | succ k6_ =>
      have H := HA.out
      clear HA
      simp only [spec_l9Drop.l0] at H
      by_cases c7_ : x8_4 < (t131.length : Int)
      · rw [if_pos c7_] at H
        have c7_b0 : decide (x8_4 < (t131.length : Int)) = true := decide_eq_true c7_
        clear c7_
        by_cases c8_ : 0 ≤ x8_4
        · rw [if_pos c8_] at H
          have c8_b0 : decide (0 ≤ x8_4) = true := decide_eq_true c8_
          clear c8_
          replace H := Option.bind_eq_some_iff.mp H
          obtain ⟨t133, A9_0, H⟩ := H
          replace H : (if 0 ≤ t133 then (if t133 < 64 then (if rdOf false l0 t133 = true then (some true) else ((spec_l9Drop.f k6_ l0 a1 t133).bind fun t135 => (if t135 = true then (spec_l9Drop.l0 k6_ a1 a2 (wrap64 (x8_4 + 1)) t131 l0) else (some true)))) else (none)) else (none)) = some r := H
          have A9_ := Aside0.mk A9_0
          clear A9_0
          by_cases c10_ : 0 ≤ t133
          · rw [if_pos c10_] at H
            have c10_b0 : decide (0 ≤ t133) = true := decide_eq_true c10_
            clear c10_
            by_cases c11_ : t133 < 64
            · rw [if_pos c11_] at H
              have c11_b0 : decide (t133 < 64) = true := decide_eq_true c11_
              clear c11_
              by_cases c12_ : rdOf false l0 t133 = true
              · rw [if_pos c12_] at H
                have c12_b0 : rdOf false l0 t133 = true := c12_
                clear c12_
                obtain rfl := Option.some.inj H
                have p132 : 0 ≤ (x8_4 : Int) := of_decide_eq_true (by first | (with_reducible assumption) | assumption)
                have q132 : (x8_4 : Int) < (t131.length : Int) := of_decide_eq_true (by first | (with_reducible assumption) | assumption)
                obtain ⟨ad132, e132, hx132⟩ := Kd.at_int (Kd.R_reads' (HM.out.R (h1 := fun _ => rfl) 0 rfl)).2.2 x8_4 p132 q132
                cases e132
                replace p132 := eq_true p132
                replace q132 := eq_true q132
                go_wp2_with (first | ((with_reducible refine gate_callee (f := 32) rfl ?_); (with_reducible refine gate_dst (N := 24) rfl ?_); refine goesL_ (some 24) rfl rfl Try.func32 (by kernel_rfl) rfl #[.int .i64 a2, .int .i64 (rd t131 x8_4)] rfl (by (try simp only [List.map_toArray, List.map_cons, List.map_nil]); first | done | rfl | (simp only [List.length_drop, List.length_take]; rfl)) ?_; (with_reducible refine (spec_l9Out.calls a2 (rd t131 x8_4) t133 _  A9_.out).mono ?_); rintro e_ w13_ ⟨rfl, hd_⟩; refine ⟨_, rfl, ?_⟩; have hb := hd_.below; clear hd_; have n_ := Aside0.mk (HM.out.step hb); clear HM; have HM := n_; clear n_; clear hb; have p134 : 0 ≤ (t133 : Int) := of_decide_eq_true (by first | (with_reducible assumption) | assumption); have q134 : (t133 : Int) < 64 := of_decide_eq_true (by first | (with_reducible assumption) | assumption); have hx134 := bcell (HM.out.box 1 rfl) t133 p134 (by have := HL0.out; omega); replace p134 := eq_true p134; replace q134 := eq_true q134))
                go_ret
                exact ⟨by first | rfl | (simp; done) | (simp [*]; done), HM.out.below⟩
              · rw [if_neg c12_] at H
                have c12_b0 : rdOf false l0 t133 = false := by simpa using c12_
                clear c12_
                replace H := Option.bind_eq_some_iff.mp H
                obtain ⟨t135, A14_0, H⟩ := H
                replace H : (if t135 = true then (spec_l9Drop.l0 k6_ a1 a2 (wrap64 (x8_4 + 1)) t131 l0) else (some true)) = some r := H
                have A14_ := Aside0.mk A14_0
                clear A14_0
                by_cases c15_ : t135 = true
                · subst c15_
                  have H1 : (spec_l9Drop.l0 k6_ a1 a2 (wrap64 (x8_4 + 1)) t131 l0) = some r := by rw [if_pos rfl] at H; exact H
                  clear H
                  have H := H1
                  clear H1
                  have H' := Aside0.mk H
                  clear H
                  have p132 : 0 ≤ (x8_4 : Int) := of_decide_eq_true (by first | (with_reducible assumption) | assumption)
                  have q132 : (x8_4 : Int) < (t131.length : Int) := of_decide_eq_true (by first | (with_reducible assumption) | assumption)
                  obtain ⟨ad132, e132, hx132⟩ := Kd.at_int (Kd.R_reads' (HM.out.R (h1 := fun _ => rfl) 0 rfl)).2.2 x8_4 p132 q132
                  cases e132
                  replace p132 := eq_true p132
                  replace q132 := eq_true q132
                  go_wp2_with (first | ((with_reducible refine gate_callee (f := 32) rfl ?_); (with_reducible refine gate_dst (N := 24) rfl ?_); refine goesL_ (some 24) rfl rfl Try.func32 (by kernel_rfl) rfl #[.int .i64 a2, .int .i64 (rd t131 x8_4)] rfl (by (try simp only [List.map_toArray, List.map_cons, List.map_nil]); first | done | rfl | (simp only [List.length_drop, List.length_take]; rfl)) ?_; (with_reducible refine (spec_l9Out.calls a2 (rd t131 x8_4) t133 _  A9_.out).mono ?_); rintro e_ w16_ ⟨rfl, hd_⟩; refine ⟨_, rfl, ?_⟩; have hb := hd_.below; clear hd_; have n_ := Aside0.mk (HM.out.step hb); clear HM; have HM := n_; clear n_; clear hb; have p134 : 0 ≤ (t133 : Int) := of_decide_eq_true (by first | (with_reducible assumption) | assumption); have q134 : (t133 : Int) < 64 := of_decide_eq_true (by first | (with_reducible assumption) | assumption); have hx134 := bcell (HM.out.box 1 rfl) t133 p134 (by have := HL0.out; omega); replace p134 := eq_true p134; replace q134 := eq_true q134) | (refine unguard (by (refine wanted_on (t := 28) rfl rfl rfl ?_); first | rfl | (simp [*]; done)) ?_; dsimp only; (with_reducible refine gate_dst (N := 29) rfl ?_); refine wpList_load_row rfl _ _ rfl gb1 rfl 44 (bcs l0) (0, 0) _ (HM.out.box 1 rfl) Try.underlying44 rfl (by rw [bcs_size, HL0.out]; kernel_rfl) ?_) | (go_at_call 35; (refine calls_of_args (args' := #[.agg (bcs l0), .int .i64 a1, .int .i64 t133]) (by first | done | rfl) ?_); (with_reducible refine ((ih k6_ (by have hHK5__ := HK5_.out; omega)) l0 a1 t133 true _ ?sd0 A14_.out).mono ?_); (case sd0 => exact HL0.out); rintro e_ w17_ ⟨rfl, hb⟩; have n_ := Aside0.mk (HM.out.step hb); clear HM; have HM := n_; clear n_; clear hb))
                  go_roundg k6_
                  case measure => have hHK5__ := HK5_.out; omega
                  case rel => exact ⟨(wrap64 (x8_4 + 1)), (by first | rfl | (simp; done) | (simp [*]; done)), H', ⟨by have hHK5__ := HK5_.out; omega⟩, HM⟩
                · replace c15_ := Bool.eq_false_iff.mpr c15_
                  subst c15_
                  have H1 : (some true) = some r := by rw [if_neg (show ¬ (false = true) by decide)] at H; exact H
                  clear H
                  have H := H1
                  clear H1
                  obtain rfl := Option.some.inj H
                  have p132 : 0 ≤ (x8_4 : Int) := of_decide_eq_true (by first | (with_reducible assumption) | assumption)
                  have q132 : (x8_4 : Int) < (t131.length : Int) := of_decide_eq_true (by first | (with_reducible assumption) | assumption)
                  obtain ⟨ad132, e132, hx132⟩ := Kd.at_int (Kd.R_reads' (HM.out.R (h1 := fun _ => rfl) 0 rfl)).2.2 x8_4 p132 q132
                  cases e132
                  replace p132 := eq_true p132
                  replace q132 := eq_true q132
                  go_wp2_with (first | ((with_reducible refine gate_callee (f := 32) rfl ?_); (with_reducible refine gate_dst (N := 24) rfl ?_); refine goesL_ (some 24) rfl rfl Try.func32 (by kernel_rfl) rfl #[.int .i64 a2, .int .i64 (rd t131 x8_4)] rfl (by (try simp only [List.map_toArray, List.map_cons, List.map_nil]); first | done | rfl | (simp only [List.length_drop, List.length_take]; rfl)) ?_; (with_reducible refine (spec_l9Out.calls a2 (rd t131 x8_4) t133 _  A9_.out).mono ?_); rintro e_ w18_ ⟨rfl, hd_⟩; refine ⟨_, rfl, ?_⟩; have hb := hd_.below; clear hd_; have n_ := Aside0.mk (HM.out.step hb); clear HM; have HM := n_; clear n_; clear hb; have p134 : 0 ≤ (t133 : Int) := of_decide_eq_true (by first | (with_reducible assumption) | assumption); have q134 : (t133 : Int) < 64 := of_decide_eq_true (by first | (with_reducible assumption) | assumption); have hx134 := bcell (HM.out.box 1 rfl) t133 p134 (by have := HL0.out; omega); replace p134 := eq_true p134; replace q134 := eq_true q134) | (refine unguard (by (refine wanted_on (t := 28) rfl rfl rfl ?_); first | rfl | (simp [*]; done)) ?_; dsimp only; (with_reducible refine gate_dst (N := 29) rfl ?_); refine wpList_load_row rfl _ _ rfl gb1 rfl 44 (bcs l0) (0, 0) _ (HM.out.box 1 rfl) Try.underlying44 rfl (by rw [bcs_size, HL0.out]; kernel_rfl) ?_) | (go_at_call 35; (refine calls_of_args (args' := #[.agg (bcs l0), .int .i64 a1, .int .i64 t133]) (by first | done | rfl) ?_); (with_reducible refine ((ih k6_ (by have hHK5__ := HK5_.out; omega)) l0 a1 t133 false _ ?sd0 A14_.out).mono ?_); (case sd0 => exact HL0.out); rintro e_ w19_ ⟨rfl, hb⟩; have n_ := Aside0.mk (HM.out.step hb); clear HM; have HM := n_; clear n_; clear hb))
                  go_ret
                  exact ⟨by first | rfl | (simp; done) | (simp [*]; done), HM.out.below⟩
            · rw [if_neg c11_] at H
              have c11_b0 : decide (t133 < 64) = false := decide_eq_false c11_
              clear c11_
              exact absurd H (by simp)
          · rw [if_neg c10_] at H
            have c10_b0 : decide (0 ≤ t133) = false := decide_eq_false c10_
            clear c10_
            exact absurd H (by simp)
        · rw [if_neg c8_] at H
          have c8_b0 : decide (0 ≤ x8_4) = false := decide_eq_false c8_
          clear c8_
          exact absurd H (by simp)
      · rw [if_neg c7_] at H
        have c7_b0 : decide (x8_4 < (t131.length : Int)) = false := decide_eq_false c7_
        clear c7_
        obtain rfl := Option.some.inj H
        go_wp2
        go_ret
        exact ⟨by first | rfl | (simp; done) | (simp [*]; done), HM.out.below⟩

/-! ### spec_CanDrop: function 14 -/
def spec_CanDrop.f (k : Nat) (l0 : List Int) (a1 : Int) (a2 : Int) : Option (Bool × Bool) := (spec_l9Good.f k l0 a1 a2).bind fun t136 => (if t136 = true then ((spec_l3Table.f k l0).bind fun t137 => ((spec_l9Drop.f k t137 a1 a2).bind fun t138 => (some (t138, true)))) else (some (false, false)))
set_option maxHeartbeats 8000000 in
set_option maxRecDepth 100000 in
theorem spec_CanDrop.calls (k : Nat) (A0 : Option Addr) (c0 : Nat) (l0 : List Int) (a1 : Int) (a2 : Int) (r1 : Bool) (r2 : Bool) (w : World) (hr0 : Kd.C (Kd.int .i64) w A0 l0.length l0) (hc0 : l0.length ≤ c0) (h : spec_CanDrop.f k l0 a1 a2 = some (r1, r2)) :
    Calls Try.prog 14 #[.slice A0 l0.length c0, .int .i64 a1, .int .i64 a2] w fun e w' => e = .returned (.tuple #[.bool r1, .bool r2]) ∧ Below w.heap.size w w' := by
  have HR0 := Aside0.mk hr0
  have HC0 := Aside0.mk hc0
  clear hr0 hc0
  have HM := Aside0.mk (MS.start w)
  have H : ((spec_l9Good.f k l0 a1 a2).bind fun t136 => (if t136 = true then ((spec_l3Table.f k l0).bind fun t137 => ((spec_l9Drop.f k t137 a1 a2).bind fun t138 => (some (t138, true)))) else (some (false, false)))) = some (r1, r2) := h
  clear h
  replace H := Option.bind_eq_some_iff.mp H
  obtain ⟨t136, A1_0, H⟩ := H
  replace H : (if t136 = true then ((spec_l3Table.f k l0).bind fun t137 => ((spec_l9Drop.f k t137 a1 a2).bind fun t138 => (some (t138, true)))) else (some (false, false))) = some (r1, r2) := H
  have A1_ := Aside0.mk A1_0
  clear A1_0
  by_cases c2_ : t136 = true
  · subst c2_
    have H1 : ((spec_l3Table.f k l0).bind fun t137 => ((spec_l9Drop.f k t137 a1 a2).bind fun t138 => (some (t138, true)))) = some (r1, r2) := by rw [if_pos rfl] at H; exact H
    clear H
    have H := H1
    clear H1
    replace H := Option.bind_eq_some_iff.mp H
    obtain ⟨t137, A3_0, H⟩ := H
    replace H : ((spec_l9Drop.f k t137 a1 a2).bind fun t138 => (some (t138, true))) = some (r1, r2) := H
    have A3_ := Aside0.mk A3_0
    clear A3_0
    replace H := Option.bind_eq_some_iff.mp H
    obtain ⟨t138, A4_0, H⟩ := H
    replace H : (some (t138, true)) = some (r1, r2) := H
    have A4_ := Aside0.mk A4_0
    clear A4_0
    simp only [Option.some.injEq, Prod.mk.injEq] at H
    obtain ⟨rfl, rfl⟩ := H
    go_enter Try.func14, Try.ntmps14
    go_wp2_with (first | ((with_reducible refine gate_callee (f := 28) rfl ?_); (with_reducible refine gate_dst (N := 11) rfl ?_); refine goesL_ (some 11) rfl rfl Try.func28 (by kernel_rfl) rfl #[.slice A0 l0.length c0, .int .i64 a1, .int .i64 a2] rfl (by (try simp only [List.map_toArray, List.map_cons, List.map_nil]); first | done | rfl | (simp only [List.length_drop, List.length_take]; rfl)) ?_; (with_reducible refine (spec_l9Good.calls k _ _ l0 a1 a2 true _ ?sd0 ?sd1 A1_.out).mono ?_); (case sd0 => exact (Kd.C_below HR0.out HM.out.below)); (case sd1 => exact HC0.out); rintro e_ w5_ ⟨rfl, hb⟩; refine ⟨_, rfl, ?_⟩; have n_ := Aside0.mk (HM.out.step hb); clear HM; have HM := n_; clear n_; clear hb) | ((with_reducible refine gate_callee (f := 36) rfl ?_); (with_reducible refine gate_dst (N := 14) rfl ?_); refine goesL_ (some 14) rfl rfl Try.func36 (by kernel_rfl) rfl #[.slice A0 l0.length c0] rfl (by (try simp only [List.map_toArray, List.map_cons, List.map_nil]); first | done | rfl | (simp only [List.length_drop, List.length_take]; rfl)) ?_; (with_reducible refine (spec_l3Table.calls k _ _ l0 t137 _ ?sd0 ?sd1 A3_.out).mono ?_); (case sd0 => exact (Kd.C_below HR0.out HM.out.below)); (case sd1 => exact HC0.out); rintro e_ w6_ ⟨rfl, ho0_, hb⟩; refine ⟨_, rfl, ?_⟩; have HLt137 := Aside0.mk ho0_; have n_ := Aside0.mk (HM.out.step hb); clear HM; have HM := n_; clear n_; clear hb ho0_) | ((with_reducible refine gate_callee (f := 35) rfl ?_); (with_reducible refine gate_dst (N := 17) rfl ?_); refine goesL_ (some 17) rfl rfl Try.func35 (by kernel_rfl) rfl #[.agg (bcs t137), .int .i64 a1, .int .i64 a2] rfl (by (try simp only [List.map_toArray, List.map_cons, List.map_nil]); first | done | rfl | (simp only [List.length_drop, List.length_take]; rfl)) ?_; (with_reducible refine (spec_l9Drop.calls k t137 a1 a2 t138 _ ?sd0 A4_.out).mono ?_); (case sd0 => exact HLt137.out); rintro e_ w7_ ⟨rfl, hb⟩; refine ⟨_, rfl, ?_⟩; have n_ := Aside0.mk (HM.out.step hb); clear HM; have HM := n_; clear n_; clear hb))
    go_ret2
    exact ⟨by first | rfl | (simp; done) | (simp [*]; done), HM.out.below⟩
  · replace c2_ := Bool.eq_false_iff.mpr c2_
    subst c2_
    have H1 : (some (false, false)) = some (r1, r2) := by rw [if_neg (show ¬ (false = true) by decide)] at H; exact H
    clear H
    have H := H1
    clear H1
    simp only [Option.some.injEq, Prod.mk.injEq] at H
    obtain ⟨rfl, rfl⟩ := H
    go_enter Try.func14, Try.ntmps14
    go_wp2_with (first | ((with_reducible refine gate_callee (f := 28) rfl ?_); (with_reducible refine gate_dst (N := 11) rfl ?_); refine goesL_ (some 11) rfl rfl Try.func28 (by kernel_rfl) rfl #[.slice A0 l0.length c0, .int .i64 a1, .int .i64 a2] rfl (by (try simp only [List.map_toArray, List.map_cons, List.map_nil]); first | done | rfl | (simp only [List.length_drop, List.length_take]; rfl)) ?_; (with_reducible refine (spec_l9Good.calls k _ _ l0 a1 a2 false _ ?sd0 ?sd1 A1_.out).mono ?_); (case sd0 => exact (Kd.C_below HR0.out HM.out.below)); (case sd1 => exact HC0.out); rintro e_ w8_ ⟨rfl, hb⟩; refine ⟨_, rfl, ?_⟩; have n_ := Aside0.mk (HM.out.step hb); clear HM; have HM := n_; clear n_; clear hb))
    go_ret2
    exact ⟨by first | rfl | (simp; done) | (simp [*]; done), HM.out.below⟩

/-! ### spec_l9Keep: function 37 -/
mutual
def spec_l9Keep.l0 : Nat → (Int) → (Int) → (Int) → (List Int) → (List Bool) → Option (Bool)
  | 0, _, _, _, _, _ => none
  | k + 1, x1, x2, x8, m2, m1 => if x8 < (m2.length : Int) then (if 0 ≤ x8 then ((spec_l9Out.f x2 (rd m2 x8)).bind fun t141 => (if 0 ≤ t141 then (if t141 < 64 then (if rdOf false m1 t141 = true then (spec_l9Keep.l0 k x1 x2 (wrap64 (x8 + 1)) m2 m1) else ((spec_l9Keep.f k m1 x1 t141).bind fun t143 => (if t143 = true then (spec_l9Keep.l0 k x1 x2 (wrap64 (x8 + 1)) m2 m1) else (some true)))) else (none)) else (none))) else (none)) else (some false)
def spec_l9Keep.f : Nat → (List Bool) → (Int) → (Int) → Option (Bool)
  | 0, _, _, _ => none
  | k + 1, l0, a1, a2 => (spec_l9Moves.f k a1 a2).bind fun t139 => (spec_l9Keep.l0 k a1 a2 0 t139 l0)
end
set_option maxHeartbeats 8000000 in
set_option maxRecDepth 100000 in
theorem spec_l9Keep.calls (k : Nat) : ∀ (l0 : List Bool) (a1 : Int) (a2 : Int) (r : Bool) (w : World) (hl0 : l0.length = 64) (h : spec_l9Keep.f k l0 a1 a2 = some r),
    Calls Try.prog 37 #[.agg (bcs l0), .int .i64 a1, .int .i64 a2] w fun e w' => e = .returned (.bool r) ∧ Below w.heap.size w w' := by
  induction k using Nat.strongRecOn with
  | _ k ih =>
  intro l0 a1 a2 r w hl0 h
  cases k with
  | zero => exact absurd h (by simp [spec_l9Keep.f])
  | succ k =>
  simp only [spec_l9Keep.f] at h
  have HL0 := Aside0.mk hl0
  clear hl0
  have hu22 := Try.underlying22
  have hu44 := Try.underlying44
  have HM := Aside0.mk (MS.start w)
  have H : ((spec_l9Moves.f k a1 a2).bind fun t139 => (spec_l9Keep.l0 k a1 a2 0 t139 l0)) = some r := h
  clear h
  replace H := Option.bind_eq_some_iff.mp H
  obtain ⟨t139, A1_0, H⟩ := H
  replace H : (spec_l9Keep.l0 k a1 a2 0 t139 l0) = some r := H
  have A1_ := Aside0.mk A1_0
  clear A1_0
  have H' := Aside0.mk H
  clear H
  go_enter Try.func37, Try.ntmps37
  go_wp2_with (first | ((with_reducible refine gate_dst (N := 3) rfl ?_); refine box_event ?hg (N := 3) ?hd (cs := (bcs l0)) (t := 44) ?hr ?_; (case hd => rfl); (case hg => rfl); (case hr => first | (go_simp; done) | (go_simp; rfl)); intro gb1 hg w2_ hbox hb; have n_ := Aside0.mk (HM.out.addBox hb hbox hg); clear HM; have HM := n_; clear n_; clear hb hbox hg) | ((with_reducible refine gate_callee (f := 39) rfl ?_); (with_reducible refine gate_dst (N := 12) rfl ?_); refine goesL_ (some 12) rfl rfl Try.func39 (by kernel_rfl) rfl #[.int .i64 a1, .int .i64 a2] rfl (by (try simp only [List.map_toArray, List.map_cons, List.map_nil]); first | done | rfl | (simp only [List.length_drop, List.length_take]; rfl)) ?_; (with_reducible refine (spec_l9Moves.calls k a1 a2 t139 _  A1_.out).mono ?_); rintro e_ w3_ ⟨vv0_, rfl, ho0_, hb⟩; refine ⟨_, rfl, ?_⟩; obtain ⟨Ao2_0, co2_0, ev_⟩ := Kd.R_slice ho0_; subst ev_; have n_ := Aside0.mk (HM.out.addR hb ho0_); clear HM; have HM := n_; clear n_; clear hb ho0_))
  go_loopg [8] k (fun kq v8 w' => ∃ (x8_4 : Int), v8 = .int .i64 x8_4 ∧ Aside0 (spec_l9Keep.l0 kq a1 a2 x8_4 t139 l0 = some r) ∧ Aside0 (kq ≤ k) ∧ Aside0 (MS w w' [.row 3 (.slice Ao2_0 t139.length co2_0) (encs (Value.int .i64) t139), .box gb1 44 (bcs l0)]))
  case atStart => exact ⟨(0), (by first | rfl | (simp; done) | (simp [*]; done)), H', ⟨Nat.le_refl _⟩, HM⟩
  case round =>
    clear H'
    clear HM
    obtain ⟨x8_4, rfl, HA, HK5_, HM⟩ := hrel
    cases gk with
    | zero => exact absurd HA.out (by simp [spec_l9Keep.l0])
    | succ k6_ =>
      have H := HA.out
      clear HA
      simp only [spec_l9Keep.l0] at H
      by_cases c7_ : x8_4 < (t139.length : Int)
      · rw [if_pos c7_] at H
        have c7_b0 : decide (x8_4 < (t139.length : Int)) = true := decide_eq_true c7_
        clear c7_
        by_cases c8_ : 0 ≤ x8_4
        · rw [if_pos c8_] at H
          have c8_b0 : decide (0 ≤ x8_4) = true := decide_eq_true c8_
          clear c8_
          replace H := Option.bind_eq_some_iff.mp H
          obtain ⟨t141, A9_0, H⟩ := H
          replace H : (if 0 ≤ t141 then (if t141 < 64 then (if rdOf false l0 t141 = true then (spec_l9Keep.l0 k6_ a1 a2 (wrap64 (x8_4 + 1)) t139 l0) else ((spec_l9Keep.f k6_ l0 a1 t141).bind fun t143 => (if t143 = true then (spec_l9Keep.l0 k6_ a1 a2 (wrap64 (x8_4 + 1)) t139 l0) else (some true)))) else (none)) else (none)) = some r := H
          have A9_ := Aside0.mk A9_0
          clear A9_0
          by_cases c10_ : 0 ≤ t141
          · rw [if_pos c10_] at H
            have c10_b0 : decide (0 ≤ t141) = true := decide_eq_true c10_
            clear c10_
            by_cases c11_ : t141 < 64
            · rw [if_pos c11_] at H
              have c11_b0 : decide (t141 < 64) = true := decide_eq_true c11_
              clear c11_
              by_cases c12_ : rdOf false l0 t141 = true
              · rw [if_pos c12_] at H
                have c12_b0 : rdOf false l0 t141 = true := c12_
                clear c12_
                have H' := Aside0.mk H
                clear H
                have p140 : 0 ≤ (x8_4 : Int) := of_decide_eq_true (by first | (with_reducible assumption) | assumption)
                have q140 : (x8_4 : Int) < (t139.length : Int) := of_decide_eq_true (by first | (with_reducible assumption) | assumption)
                obtain ⟨ad140, e140, hx140⟩ := Kd.at_int (Kd.R_reads' (HM.out.R (h1 := fun _ => rfl) 0 rfl)).2.2 x8_4 p140 q140
                cases e140
                replace p140 := eq_true p140
                replace q140 := eq_true q140
                go_wp2_with (first | ((with_reducible refine gate_callee (f := 32) rfl ?_); (with_reducible refine gate_dst (N := 24) rfl ?_); refine goesL_ (some 24) rfl rfl Try.func32 (by kernel_rfl) rfl #[.int .i64 a2, .int .i64 (rd t139 x8_4)] rfl (by (try simp only [List.map_toArray, List.map_cons, List.map_nil]); first | done | rfl | (simp only [List.length_drop, List.length_take]; rfl)) ?_; (with_reducible refine (spec_l9Out.calls a2 (rd t139 x8_4) t141 _  A9_.out).mono ?_); rintro e_ w13_ ⟨rfl, hd_⟩; refine ⟨_, rfl, ?_⟩; have hb := hd_.below; clear hd_; have n_ := Aside0.mk (HM.out.step hb); clear HM; have HM := n_; clear n_; clear hb; have p142 : 0 ≤ (t141 : Int) := of_decide_eq_true (by first | (with_reducible assumption) | assumption); have q142 : (t141 : Int) < 64 := of_decide_eq_true (by first | (with_reducible assumption) | assumption); have hx142 := bcell (HM.out.box 1 rfl) t141 p142 (by have := HL0.out; omega); replace p142 := eq_true p142; replace q142 := eq_true q142))
                go_roundg k6_
                case measure => have hHK5__ := HK5_.out; omega
                case rel => exact ⟨(wrap64 (x8_4 + 1)), (by first | rfl | (simp; done) | (simp [*]; done)), H', ⟨by have hHK5__ := HK5_.out; omega⟩, HM⟩
              · rw [if_neg c12_] at H
                have c12_b0 : rdOf false l0 t141 = false := by simpa using c12_
                clear c12_
                replace H := Option.bind_eq_some_iff.mp H
                obtain ⟨t143, A14_0, H⟩ := H
                replace H : (if t143 = true then (spec_l9Keep.l0 k6_ a1 a2 (wrap64 (x8_4 + 1)) t139 l0) else (some true)) = some r := H
                have A14_ := Aside0.mk A14_0
                clear A14_0
                by_cases c15_ : t143 = true
                · subst c15_
                  have H1 : (spec_l9Keep.l0 k6_ a1 a2 (wrap64 (x8_4 + 1)) t139 l0) = some r := by rw [if_pos rfl] at H; exact H
                  clear H
                  have H := H1
                  clear H1
                  have H' := Aside0.mk H
                  clear H
                  have p140 : 0 ≤ (x8_4 : Int) := of_decide_eq_true (by first | (with_reducible assumption) | assumption)
                  have q140 : (x8_4 : Int) < (t139.length : Int) := of_decide_eq_true (by first | (with_reducible assumption) | assumption)
                  obtain ⟨ad140, e140, hx140⟩ := Kd.at_int (Kd.R_reads' (HM.out.R (h1 := fun _ => rfl) 0 rfl)).2.2 x8_4 p140 q140
                  cases e140
                  replace p140 := eq_true p140
                  replace q140 := eq_true q140
                  go_wp2_with (first | ((with_reducible refine gate_callee (f := 32) rfl ?_); (with_reducible refine gate_dst (N := 24) rfl ?_); refine goesL_ (some 24) rfl rfl Try.func32 (by kernel_rfl) rfl #[.int .i64 a2, .int .i64 (rd t139 x8_4)] rfl (by (try simp only [List.map_toArray, List.map_cons, List.map_nil]); first | done | rfl | (simp only [List.length_drop, List.length_take]; rfl)) ?_; (with_reducible refine (spec_l9Out.calls a2 (rd t139 x8_4) t141 _  A9_.out).mono ?_); rintro e_ w16_ ⟨rfl, hd_⟩; refine ⟨_, rfl, ?_⟩; have hb := hd_.below; clear hd_; have n_ := Aside0.mk (HM.out.step hb); clear HM; have HM := n_; clear n_; clear hb; have p142 : 0 ≤ (t141 : Int) := of_decide_eq_true (by first | (with_reducible assumption) | assumption); have q142 : (t141 : Int) < 64 := of_decide_eq_true (by first | (with_reducible assumption) | assumption); have hx142 := bcell (HM.out.box 1 rfl) t141 p142 (by have := HL0.out; omega); replace p142 := eq_true p142; replace q142 := eq_true q142) | (refine unguard (by (refine wanted_on (t := 29) rfl rfl rfl ?_); first | rfl | (simp [*]; done)) ?_; dsimp only; (with_reducible refine gate_dst (N := 30) rfl ?_); refine wpList_load_row rfl _ _ rfl gb1 rfl 44 (bcs l0) (0, 0) _ (HM.out.box 1 rfl) Try.underlying44 rfl (by rw [bcs_size, HL0.out]; kernel_rfl) ?_) | (go_at_call 37; (refine calls_of_args (args' := #[.agg (bcs l0), .int .i64 a1, .int .i64 t141]) (by first | done | rfl) ?_); (with_reducible refine ((ih k6_ (by have hHK5__ := HK5_.out; omega)) l0 a1 t141 true _ ?sd0 A14_.out).mono ?_); (case sd0 => exact HL0.out); rintro e_ w17_ ⟨rfl, hb⟩; have n_ := Aside0.mk (HM.out.step hb); clear HM; have HM := n_; clear n_; clear hb))
                  go_roundg k6_
                  case measure => have hHK5__ := HK5_.out; omega
                  case rel => exact ⟨(wrap64 (x8_4 + 1)), (by first | rfl | (simp; done) | (simp [*]; done)), H', ⟨by have hHK5__ := HK5_.out; omega⟩, HM⟩
                · replace c15_ := Bool.eq_false_iff.mpr c15_
                  subst c15_
                  have H1 : (some true) = some r := by rw [if_neg (show ¬ (false = true) by decide)] at H; exact H
                  clear H
                  have H := H1
                  clear H1
                  obtain rfl := Option.some.inj H
                  have p140 : 0 ≤ (x8_4 : Int) := of_decide_eq_true (by first | (with_reducible assumption) | assumption)
                  have q140 : (x8_4 : Int) < (t139.length : Int) := of_decide_eq_true (by first | (with_reducible assumption) | assumption)
                  obtain ⟨ad140, e140, hx140⟩ := Kd.at_int (Kd.R_reads' (HM.out.R (h1 := fun _ => rfl) 0 rfl)).2.2 x8_4 p140 q140
                  cases e140
                  replace p140 := eq_true p140
                  replace q140 := eq_true q140
                  go_wp2_with (first | ((with_reducible refine gate_callee (f := 32) rfl ?_); (with_reducible refine gate_dst (N := 24) rfl ?_); refine goesL_ (some 24) rfl rfl Try.func32 (by kernel_rfl) rfl #[.int .i64 a2, .int .i64 (rd t139 x8_4)] rfl (by (try simp only [List.map_toArray, List.map_cons, List.map_nil]); first | done | rfl | (simp only [List.length_drop, List.length_take]; rfl)) ?_; (with_reducible refine (spec_l9Out.calls a2 (rd t139 x8_4) t141 _  A9_.out).mono ?_); rintro e_ w18_ ⟨rfl, hd_⟩; refine ⟨_, rfl, ?_⟩; have hb := hd_.below; clear hd_; have n_ := Aside0.mk (HM.out.step hb); clear HM; have HM := n_; clear n_; clear hb; have p142 : 0 ≤ (t141 : Int) := of_decide_eq_true (by first | (with_reducible assumption) | assumption); have q142 : (t141 : Int) < 64 := of_decide_eq_true (by first | (with_reducible assumption) | assumption); have hx142 := bcell (HM.out.box 1 rfl) t141 p142 (by have := HL0.out; omega); replace p142 := eq_true p142; replace q142 := eq_true q142) | (refine unguard (by (refine wanted_on (t := 29) rfl rfl rfl ?_); first | rfl | (simp [*]; done)) ?_; dsimp only; (with_reducible refine gate_dst (N := 30) rfl ?_); refine wpList_load_row rfl _ _ rfl gb1 rfl 44 (bcs l0) (0, 0) _ (HM.out.box 1 rfl) Try.underlying44 rfl (by rw [bcs_size, HL0.out]; kernel_rfl) ?_) | (go_at_call 37; (refine calls_of_args (args' := #[.agg (bcs l0), .int .i64 a1, .int .i64 t141]) (by first | done | rfl) ?_); (with_reducible refine ((ih k6_ (by have hHK5__ := HK5_.out; omega)) l0 a1 t141 false _ ?sd0 A14_.out).mono ?_); (case sd0 => exact HL0.out); rintro e_ w19_ ⟨rfl, hb⟩; have n_ := Aside0.mk (HM.out.step hb); clear HM; have HM := n_; clear n_; clear hb))
                  go_ret
                  exact ⟨by first | rfl | (simp; done) | (simp [*]; done), HM.out.below⟩
            · rw [if_neg c11_] at H
              have c11_b0 : decide (t141 < 64) = false := decide_eq_false c11_
              clear c11_
              exact absurd H (by simp)
          · rw [if_neg c10_] at H
            have c10_b0 : decide (0 ≤ t141) = false := decide_eq_false c10_
            clear c10_
            exact absurd H (by simp)
        · rw [if_neg c8_] at H
          have c8_b0 : decide (0 ≤ x8_4) = false := decide_eq_false c8_
          clear c8_
          exact absurd H (by simp)
      · rw [if_neg c7_] at H
        have c7_b0 : decide (x8_4 < (t139.length : Int)) = false := decide_eq_false c7_
        clear c7_
        obtain rfl := Option.some.inj H
        go_wp2
        go_ret
        exact ⟨by first | rfl | (simp; done) | (simp [*]; done), HM.out.below⟩

/-! ### spec_CanKeep: function 16 -/
def spec_CanKeep.f (k : Nat) (l0 : List Int) (a1 : Int) (a2 : Int) : Option (Bool × Bool) := (spec_l9Good.f k l0 a1 a2).bind fun t144 => (if t144 = true then ((spec_l3Table.f k l0).bind fun t145 => ((spec_l9Keep.f k t145 a1 a2).bind fun t146 => (some (t146, true)))) else (some (false, false)))
set_option maxHeartbeats 8000000 in
set_option maxRecDepth 100000 in
theorem spec_CanKeep.calls (k : Nat) (A0 : Option Addr) (c0 : Nat) (l0 : List Int) (a1 : Int) (a2 : Int) (r1 : Bool) (r2 : Bool) (w : World) (hr0 : Kd.C (Kd.int .i64) w A0 l0.length l0) (hc0 : l0.length ≤ c0) (h : spec_CanKeep.f k l0 a1 a2 = some (r1, r2)) :
    Calls Try.prog 16 #[.slice A0 l0.length c0, .int .i64 a1, .int .i64 a2] w fun e w' => e = .returned (.tuple #[.bool r1, .bool r2]) ∧ Below w.heap.size w w' := by
  have HR0 := Aside0.mk hr0
  have HC0 := Aside0.mk hc0
  clear hr0 hc0
  have HM := Aside0.mk (MS.start w)
  have H : ((spec_l9Good.f k l0 a1 a2).bind fun t144 => (if t144 = true then ((spec_l3Table.f k l0).bind fun t145 => ((spec_l9Keep.f k t145 a1 a2).bind fun t146 => (some (t146, true)))) else (some (false, false)))) = some (r1, r2) := h
  clear h
  replace H := Option.bind_eq_some_iff.mp H
  obtain ⟨t144, A1_0, H⟩ := H
  replace H : (if t144 = true then ((spec_l3Table.f k l0).bind fun t145 => ((spec_l9Keep.f k t145 a1 a2).bind fun t146 => (some (t146, true)))) else (some (false, false))) = some (r1, r2) := H
  have A1_ := Aside0.mk A1_0
  clear A1_0
  by_cases c2_ : t144 = true
  · subst c2_
    have H1 : ((spec_l3Table.f k l0).bind fun t145 => ((spec_l9Keep.f k t145 a1 a2).bind fun t146 => (some (t146, true)))) = some (r1, r2) := by rw [if_pos rfl] at H; exact H
    clear H
    have H := H1
    clear H1
    replace H := Option.bind_eq_some_iff.mp H
    obtain ⟨t145, A3_0, H⟩ := H
    replace H : ((spec_l9Keep.f k t145 a1 a2).bind fun t146 => (some (t146, true))) = some (r1, r2) := H
    have A3_ := Aside0.mk A3_0
    clear A3_0
    replace H := Option.bind_eq_some_iff.mp H
    obtain ⟨t146, A4_0, H⟩ := H
    replace H : (some (t146, true)) = some (r1, r2) := H
    have A4_ := Aside0.mk A4_0
    clear A4_0
    simp only [Option.some.injEq, Prod.mk.injEq] at H
    obtain ⟨rfl, rfl⟩ := H
    go_enter Try.func16, Try.ntmps16
    go_wp2_with (first | ((with_reducible refine gate_callee (f := 28) rfl ?_); (with_reducible refine gate_dst (N := 11) rfl ?_); refine goesL_ (some 11) rfl rfl Try.func28 (by kernel_rfl) rfl #[.slice A0 l0.length c0, .int .i64 a1, .int .i64 a2] rfl (by (try simp only [List.map_toArray, List.map_cons, List.map_nil]); first | done | rfl | (simp only [List.length_drop, List.length_take]; rfl)) ?_; (with_reducible refine (spec_l9Good.calls k _ _ l0 a1 a2 true _ ?sd0 ?sd1 A1_.out).mono ?_); (case sd0 => exact (Kd.C_below HR0.out HM.out.below)); (case sd1 => exact HC0.out); rintro e_ w5_ ⟨rfl, hb⟩; refine ⟨_, rfl, ?_⟩; have n_ := Aside0.mk (HM.out.step hb); clear HM; have HM := n_; clear n_; clear hb) | ((with_reducible refine gate_callee (f := 36) rfl ?_); (with_reducible refine gate_dst (N := 14) rfl ?_); refine goesL_ (some 14) rfl rfl Try.func36 (by kernel_rfl) rfl #[.slice A0 l0.length c0] rfl (by (try simp only [List.map_toArray, List.map_cons, List.map_nil]); first | done | rfl | (simp only [List.length_drop, List.length_take]; rfl)) ?_; (with_reducible refine (spec_l3Table.calls k _ _ l0 t145 _ ?sd0 ?sd1 A3_.out).mono ?_); (case sd0 => exact (Kd.C_below HR0.out HM.out.below)); (case sd1 => exact HC0.out); rintro e_ w6_ ⟨rfl, ho0_, hb⟩; refine ⟨_, rfl, ?_⟩; have HLt145 := Aside0.mk ho0_; have n_ := Aside0.mk (HM.out.step hb); clear HM; have HM := n_; clear n_; clear hb ho0_) | ((with_reducible refine gate_callee (f := 37) rfl ?_); (with_reducible refine gate_dst (N := 17) rfl ?_); refine goesL_ (some 17) rfl rfl Try.func37 (by kernel_rfl) rfl #[.agg (bcs t145), .int .i64 a1, .int .i64 a2] rfl (by (try simp only [List.map_toArray, List.map_cons, List.map_nil]); first | done | rfl | (simp only [List.length_drop, List.length_take]; rfl)) ?_; (with_reducible refine (spec_l9Keep.calls k t145 a1 a2 t146 _ ?sd0 A4_.out).mono ?_); (case sd0 => exact HLt145.out); rintro e_ w7_ ⟨rfl, hb⟩; refine ⟨_, rfl, ?_⟩; have n_ := Aside0.mk (HM.out.step hb); clear HM; have HM := n_; clear n_; clear hb))
    go_ret2
    exact ⟨by first | rfl | (simp; done) | (simp [*]; done), HM.out.below⟩
  · replace c2_ := Bool.eq_false_iff.mpr c2_
    subst c2_
    have H1 : (some (false, false)) = some (r1, r2) := by rw [if_neg (show ¬ (false = true) by decide)] at H; exact H
    clear H
    have H := H1
    clear H1
    simp only [Option.some.injEq, Prod.mk.injEq] at H
    obtain ⟨rfl, rfl⟩ := H
    go_enter Try.func16, Try.ntmps16
    go_wp2_with (first | ((with_reducible refine gate_callee (f := 28) rfl ?_); (with_reducible refine gate_dst (N := 11) rfl ?_); refine goesL_ (some 11) rfl rfl Try.func28 (by kernel_rfl) rfl #[.slice A0 l0.length c0, .int .i64 a1, .int .i64 a2] rfl (by (try simp only [List.map_toArray, List.map_cons, List.map_nil]); first | done | rfl | (simp only [List.length_drop, List.length_take]; rfl)) ?_; (with_reducible refine (spec_l9Good.calls k _ _ l0 a1 a2 false _ ?sd0 ?sd1 A1_.out).mono ?_); (case sd0 => exact (Kd.C_below HR0.out HM.out.below)); (case sd1 => exact HC0.out); rintro e_ w8_ ⟨rfl, hb⟩; refine ⟨_, rfl, ?_⟩; have n_ := Aside0.mk (HM.out.step hb); clear HM; have HM := n_; clear n_; clear hb))
    go_ret2
    exact ⟨by first | rfl | (simp; done) | (simp [*]; done), HM.out.below⟩

/-! ### spec_SafeNails: function 18 -/
def spec_SafeNails.l0 : Nat → (List Int) → (Int) → (Int) → (List Int) → (List Int) → Option (List Int × Bool)
  | 0, _, _, _, _, _ => none
  | k + 1, x0, x2, x10, m2, m1 => if x10 < (m2.length : Int) then (if 0 ≤ x10 then ((spec_l9Out.f x2 (rd m2 x10)).bind fun t151 => ((spec_l3Falls.f k x0 t151).bind fun t152 => (if t152 = true then (spec_SafeNails.l0 k x0 x2 (wrap64 (x10 + 1)) m2 m1) else (if m1.length < 17592186044416 then (spec_SafeNails.l0 k x0 x2 (wrap64 (x10 + 1)) m2 (m1 ++ [rd m2 x10])) else (none))))) else (none)) else (some (m1, true))
def spec_SafeNails.f (k : Nat) (l0 : List Int) (a1 : Int) (a2 : Int) : Option (List Int × Bool) := (some (([] : List Int))).bind fun y147 => ((spec_l9Good.f k l0 a1 a2).bind fun t148 => (if t148 = true then ((spec_l9Moves.f k a1 a2).bind fun t149 => (spec_SafeNails.l0 k l0 a2 0 t149 y147)) else (some (y147, false))))
set_option maxHeartbeats 8000000 in
set_option maxRecDepth 100000 in
theorem spec_SafeNails.calls (k : Nat) (A0 : Option Addr) (c0 : Nat) (l0 : List Int) (a1 : Int) (a2 : Int) (r1 : List Int) (r2 : Bool) (w : World) (hr0 : Kd.C (Kd.int .i64) w A0 l0.length l0) (hc0 : l0.length ≤ c0) (h : spec_SafeNails.f k l0 a1 a2 = some (r1, r2)) :
    Calls Try.prog 18 #[.slice A0 l0.length c0, .int .i64 a1, .int .i64 a2] w fun e w' => ∃ v0_ : Value, e = .returned (.tuple #[v0_, .bool r2]) ∧ Kd.R (Kd.int .i64) 3 w' w.heap.size (fun _ => True) v0_ r1 ∧ Below w.heap.size w w' := by
  have HR0 := Aside0.mk hr0
  have HC0 := Aside0.mk hc0
  clear hr0 hc0
  have hu22 := Try.underlying22
  have HM := Aside0.mk (MS.start w)
  have H : ((some (([] : List Int))).bind fun y147 => ((spec_l9Good.f k l0 a1 a2).bind fun t148 => (if t148 = true then ((spec_l9Moves.f k a1 a2).bind fun t149 => (spec_SafeNails.l0 k l0 a2 0 t149 y147)) else (some (y147, false))))) = some (r1, r2) := h
  clear h
  obtain ⟨y147, hy147⟩ : ∃ y_, y_ = (([] : List Int)) := ⟨_, rfl⟩
  replace H : ((spec_l9Good.f k l0 a1 a2).bind fun t148 => (if t148 = true then ((spec_l9Moves.f k a1 a2).bind fun t149 => (spec_SafeNails.l0 k l0 a2 0 t149 y147)) else (some (y147, false)))) = some (r1, r2) := by first | (rw [hy147]; with_reducible exact H) | (have H2_ := (Option.bind_some _ _).symm.trans H; rw [hy147]; with_reducible exact H2_) | (have H2_ := (Option.bind_some _ _).symm.trans H; with_reducible exact H2_) | with_reducible exact H | (rw [hy147]; exact H) | exact H
  have Ny147 := Aside0.mk hy147
  clear hy147
  replace H := Option.bind_eq_some_iff.mp H
  obtain ⟨t148, A1_0, H⟩ := H
  replace H : (if t148 = true then ((spec_l9Moves.f k a1 a2).bind fun t149 => (spec_SafeNails.l0 k l0 a2 0 t149 y147)) else (some (y147, false))) = some (r1, r2) := H
  have A1_ := Aside0.mk A1_0
  clear A1_0
  by_cases c2_ : t148 = true
  · subst c2_
    have H1 : ((spec_l9Moves.f k a1 a2).bind fun t149 => (spec_SafeNails.l0 k l0 a2 0 t149 y147)) = some (r1, r2) := by rw [if_pos rfl] at H; exact H
    clear H
    have H := H1
    clear H1
    replace H := Option.bind_eq_some_iff.mp H
    obtain ⟨t149, A3_0, H⟩ := H
    replace H : (spec_SafeNails.l0 k l0 a2 0 t149 y147) = some (r1, r2) := H
    have A3_ := Aside0.mk A3_0
    clear A3_0
    have H' := Aside0.mk H
    clear H
    go_enter Try.func18, Try.ntmps18
    go_wp2_with (first | ((with_reducible refine gate_dst (N := 11) rfl ?_); refine Kd.R_lit (Kd.int .i64) _ 3 ?hg (N := 11) ?hd (xs := ([] : List Int)) (inner := []) (ok := fun _ => True) (okp := fun _ => True) ?hr ?hp (fun _ hk => hk) trivial (Below.refl _ _) (Nat.le_refl _) (by simp) ?_; (case hd => rfl); (case hg => rfl); (case hr => first | (go_simp; done) | (go_simp; rfl)); (case hp => exact (Reps.none _ _)); intro vv_ w4_ ho hb hg_ hnew_; clear hg_ hnew_; rw [← Ny147.out] at ho; obtain ⟨Ao1_0, co1_0, ev_⟩ := Kd.R_slice ho; subst ev_; have n_ := Aside0.mk (HM.out.addR hb ho); clear HM; have HM := n_; clear n_; clear hb ho) | ((with_reducible refine gate_callee (f := 28) rfl ?_); (with_reducible refine gate_dst (N := 15) rfl ?_); refine goesL_ (some 15) rfl rfl Try.func28 (by kernel_rfl) rfl #[.slice A0 l0.length c0, .int .i64 a1, .int .i64 a2] rfl (by (try simp only [List.map_toArray, List.map_cons, List.map_nil]); first | done | rfl | (simp only [List.length_drop, List.length_take]; rfl)) ?_; (with_reducible refine (spec_l9Good.calls k _ _ l0 a1 a2 true _ ?sd0 ?sd1 A1_.out).mono ?_); (case sd0 => exact (Kd.C_below HR0.out HM.out.below)); (case sd1 => exact HC0.out); rintro e_ w5_ ⟨rfl, hb⟩; refine ⟨_, rfl, ?_⟩; have n_ := Aside0.mk (HM.out.step hb); clear HM; have HM := n_; clear n_; clear hb) | ((with_reducible refine gate_callee (f := 39) rfl ?_); (with_reducible refine gate_dst (N := 20) rfl ?_); refine goesL_ (some 20) rfl rfl Try.func39 (by kernel_rfl) rfl #[.int .i64 a1, .int .i64 a2] rfl (by (try simp only [List.map_toArray, List.map_cons, List.map_nil]); first | done | rfl | (simp only [List.length_drop, List.length_take]; rfl)) ?_; (with_reducible refine (spec_l9Moves.calls k a1 a2 t149 _  A3_.out).mono ?_); rintro e_ w6_ ⟨vv0_, rfl, ho0_, hb⟩; refine ⟨_, rfl, ?_⟩; obtain ⟨Ao2_0, co2_0, ev_⟩ := Kd.R_slice ho0_; subst ev_; have n_ := Aside0.mk (HM.out.addR hb ho0_); clear HM; have HM := n_; clear n_; clear hb ho0_))
    go_loopg [8, 10] k (fun kq v8 v10 w' => ∃ (x10_7 : Int) (Am1_7 : Option Addr) (cm1_7 : Nat) (m1_7 : List Int), v10 = .int .i64 x10_7 ∧ v8 = .slice Am1_7 m1_7.length cm1_7 ∧ Aside0 (spec_SafeNails.l0 kq l0 a2 x10_7 t149 m1_7 = some (r1, r2)) ∧ Aside0 (kq ≤ k) ∧ Aside0 (MS w w' [.row 3 (.slice Ao2_0 t149.length co2_0) (encs (Value.int .i64) t149), .row 3 (.slice Am1_7 m1_7.length cm1_7) (encs (Value.int .i64) m1_7)]))
    case atStart => exact ⟨(0), (Ao1_0), (co1_0), (y147), (by first | rfl | (simp; done) | (simp [*]; done)), (by first | rfl | (simp; done) | (simp [*]; done)), H', ⟨Nat.le_refl _⟩, HM⟩
    case round =>
      clear H'
      clear HM
      obtain ⟨x10_7, Am1_7, cm1_7, m1_7, rfl, rfl, HA, HK8_, HM⟩ := hrel
      cases gk with
      | zero => exact absurd HA.out (by simp [spec_SafeNails.l0])
      | succ k9_ =>
        have H := HA.out
        clear HA
        simp only [spec_SafeNails.l0] at H
        by_cases c10_ : x10_7 < (t149.length : Int)
        · rw [if_pos c10_] at H
          have c10_b0 : decide (x10_7 < (t149.length : Int)) = true := decide_eq_true c10_
          clear c10_
          by_cases c11_ : 0 ≤ x10_7
          · rw [if_pos c11_] at H
            have c11_b0 : decide (0 ≤ x10_7) = true := decide_eq_true c11_
            clear c11_
            replace H := Option.bind_eq_some_iff.mp H
            obtain ⟨t151, A12_0, H⟩ := H
            replace H : ((spec_l3Falls.f k9_ l0 t151).bind fun t152 => (if t152 = true then (spec_SafeNails.l0 k9_ l0 a2 (wrap64 (x10_7 + 1)) t149 m1_7) else (if m1_7.length < 17592186044416 then (spec_SafeNails.l0 k9_ l0 a2 (wrap64 (x10_7 + 1)) t149 (m1_7 ++ [rd t149 x10_7])) else (none)))) = some (r1, r2) := H
            have A12_ := Aside0.mk A12_0
            clear A12_0
            replace H := Option.bind_eq_some_iff.mp H
            obtain ⟨t152, A13_0, H⟩ := H
            replace H : (if t152 = true then (spec_SafeNails.l0 k9_ l0 a2 (wrap64 (x10_7 + 1)) t149 m1_7) else (if m1_7.length < 17592186044416 then (spec_SafeNails.l0 k9_ l0 a2 (wrap64 (x10_7 + 1)) t149 (m1_7 ++ [rd t149 x10_7])) else (none))) = some (r1, r2) := H
            have A13_ := Aside0.mk A13_0
            clear A13_0
            by_cases c14_ : t152 = true
            · subst c14_
              have H1 : (spec_SafeNails.l0 k9_ l0 a2 (wrap64 (x10_7 + 1)) t149 m1_7) = some (r1, r2) := by rw [if_pos rfl] at H; exact H
              clear H
              have H := H1
              clear H1
              have H' := Aside0.mk H
              clear H
              have p150 : 0 ≤ (x10_7 : Int) := of_decide_eq_true (by first | (with_reducible assumption) | assumption)
              have q150 : (x10_7 : Int) < (t149.length : Int) := of_decide_eq_true (by first | (with_reducible assumption) | assumption)
              obtain ⟨ad150, e150, hx150⟩ := Kd.at_int (Kd.R_reads' (HM.out.R (h1 := fun _ => rfl) 0 rfl)).2.2 x10_7 p150 q150
              cases e150
              replace p150 := eq_true p150
              replace q150 := eq_true q150
              go_wp2_with (first | ((with_reducible refine gate_callee (f := 32) rfl ?_); (with_reducible refine gate_dst (N := 33) rfl ?_); refine goesL_ (some 33) rfl rfl Try.func32 (by kernel_rfl) rfl #[.int .i64 a2, .int .i64 (rd t149 x10_7)] rfl (by (try simp only [List.map_toArray, List.map_cons, List.map_nil]); first | done | rfl | (simp only [List.length_drop, List.length_take]; rfl)) ?_; (with_reducible refine (spec_l9Out.calls a2 (rd t149 x10_7) t151 _  A12_.out).mono ?_); rintro e_ w15_ ⟨rfl, hd_⟩; refine ⟨_, rfl, ?_⟩; have hb := hd_.below; clear hd_; have n_ := Aside0.mk (HM.out.step hb); clear HM; have HM := n_; clear n_; clear hb) | ((with_reducible refine gate_callee (f := 31) rfl ?_); (with_reducible refine gate_dst (N := 34) rfl ?_); refine goesL_ (some 34) rfl rfl Try.func31 (by kernel_rfl) rfl #[.slice A0 l0.length c0, .int .i64 t151] rfl (by (try simp only [List.map_toArray, List.map_cons, List.map_nil]); first | done | rfl | (simp only [List.length_drop, List.length_take]; rfl)) ?_; (with_reducible refine (spec_l3Falls.calls k9_ _ _ l0 t151 true _ ?sd0 ?sd1 A13_.out).mono ?_); (case sd0 => exact (Kd.C_below HR0.out HM.out.below)); (case sd1 => exact HC0.out); rintro e_ w16_ ⟨rfl, hb⟩; refine ⟨_, rfl, ?_⟩; have n_ := Aside0.mk (HM.out.step hb); clear HM; have HM := n_; clear n_; clear hb))
              go_roundg k9_
              case measure => have hHK8__ := HK8_.out; omega
              case rel => exact ⟨(wrap64 (x10_7 + 1)), (Am1_7), (cm1_7), (m1_7), (by first | rfl | (simp; done) | (simp [*]; done)), (by first | rfl | (simp; done) | (simp [*]; done)), H', ⟨by have hHK8__ := HK8_.out; omega⟩, HM⟩
            · replace c14_ := Bool.eq_false_iff.mpr c14_
              subst c14_
              have H1 : (if m1_7.length < 17592186044416 then (spec_SafeNails.l0 k9_ l0 a2 (wrap64 (x10_7 + 1)) t149 (m1_7 ++ [rd t149 x10_7])) else (none)) = some (r1, r2) := by rw [if_neg (show ¬ (false = true) by decide)] at H; exact H
              clear H
              have H := H1
              clear H1
              by_cases c17_ : m1_7.length < 17592186044416
              · rw [if_pos c17_] at H
                have LMc17_ := Aside0.mk c17_
                clear c17_
                obtain ⟨y154, hy154⟩ : ∃ y_, y_ = (m1_7 ++ [rd t149 x10_7]) := ⟨_, rfl⟩
                replace H : (spec_SafeNails.l0 k9_ l0 a2 (wrap64 (x10_7 + 1)) t149 y154) = some (r1, r2) := by first | (rw [hy154]; with_reducible exact H) | (have H2_ := (Option.bind_some _ _).symm.trans H; rw [hy154]; with_reducible exact H2_) | (have H2_ := (Option.bind_some _ _).symm.trans H; with_reducible exact H2_) | with_reducible exact H | (rw [hy154]; exact H) | exact H
                have Ny154 := Aside0.mk hy154
                clear hy154
                have H' := Aside0.mk H
                clear H
                have p150 : 0 ≤ (x10_7 : Int) := of_decide_eq_true (by first | (with_reducible assumption) | assumption)
                have q150 : (x10_7 : Int) < (t149.length : Int) := of_decide_eq_true (by first | (with_reducible assumption) | assumption)
                obtain ⟨ad150, e150, hx150⟩ := Kd.at_int (Kd.R_reads' (HM.out.R (h1 := fun _ => rfl) 0 rfl)).2.2 x10_7 p150 q150
                cases e150
                replace p150 := eq_true p150
                replace q150 := eq_true q150
                go_wp2_with (first | ((with_reducible refine gate_callee (f := 32) rfl ?_); (with_reducible refine gate_dst (N := 33) rfl ?_); refine goesL_ (some 33) rfl rfl Try.func32 (by kernel_rfl) rfl #[.int .i64 a2, .int .i64 (rd t149 x10_7)] rfl (by (try simp only [List.map_toArray, List.map_cons, List.map_nil]); first | done | rfl | (simp only [List.length_drop, List.length_take]; rfl)) ?_; (with_reducible refine (spec_l9Out.calls a2 (rd t149 x10_7) t151 _  A12_.out).mono ?_); rintro e_ w18_ ⟨rfl, hd_⟩; refine ⟨_, rfl, ?_⟩; have hb := hd_.below; clear hd_; have n_ := Aside0.mk (HM.out.step hb); clear HM; have HM := n_; clear n_; clear hb) | ((with_reducible refine gate_callee (f := 31) rfl ?_); (with_reducible refine gate_dst (N := 34) rfl ?_); refine goesL_ (some 34) rfl rfl Try.func31 (by kernel_rfl) rfl #[.slice A0 l0.length c0, .int .i64 t151] rfl (by (try simp only [List.map_toArray, List.map_cons, List.map_nil]); first | done | rfl | (simp only [List.length_drop, List.length_take]; rfl)) ?_; (with_reducible refine (spec_l3Falls.calls k9_ _ _ l0 t151 false _ ?sd0 ?sd1 A13_.out).mono ?_); (case sd0 => exact (Kd.C_below HR0.out HM.out.below)); (case sd1 => exact HC0.out); rintro e_ w19_ ⟨rfl, hb⟩; refine ⟨_, rfl, ?_⟩; have n_ := Aside0.mk (HM.out.step hb); clear HM; have HM := n_; clear n_; clear hb; have p153 : 0 ≤ (x10_7 : Int) := of_decide_eq_true (by first | (with_reducible assumption) | assumption); have q153 : (x10_7 : Int) < (t149.length : Int) := of_decide_eq_true (by first | (with_reducible assumption) | assumption); obtain ⟨ad153, e153, hx153⟩ := Kd.at_int (Kd.R_reads' (HM.out.R (h1 := fun _ => rfl) 0 rfl)).2.2 x10_7 p153 q153; obtain rfl : ad150 = ad153 := (by injection e153); replace p153 := eq_true p153; replace q153 := eq_true q153) | ((with_reducible refine gate_builtin (b := .append) (xs := #[.tmp 36, .tmp 41]) rfl ?_); at_builtin; refine Kd.R_append (Kd.int .i64) (w0 := w) w.heap.size rfl (.tmp 36) (.tmp 41) 22 3 (.int .i64 0) 8 rfl Try.underlying22 info3 rfl (by decide) (by omega) (.slice Am1_7 m1_7.length cm1_7) m1_7 (rd t149 x10_7) [.int .i64 (rd t149 x10_7)] (fun _ => True) (fun _ => False) rfl rfl ?aP (fun _ hk => hk.elim) ?aF ?aO ?aB ?aS ?aL ?_; (case aP => exact rfl); (case aB => exact HM.out.below); (case aF => exact (fun _ _ => trivial)); (case aO => exact (HM.out.R 1 rfl)); (case aS => exact HM.out.size); (case aL => have := LMc17_.out; omega); intro vv_ w20_ ho hb hg hat; rw [← Ny154.out] at ho; have n_ := Aside0.mk (HM.out.grow 1 rfl ho hb hg hat); clear HM; have HM := n_; clear n_; obtain ⟨Ao1_y154, co1_y154, ev_⟩ := Kd.R_slice ho; subst ev_; clear ho hb hg hat; have n_ : Aside0 (MS w w20_ [.row 3 (.slice (some ad150) t149.length co2_0) (encs (Value.int .i64) t149), .row 3 (.slice Ao1_y154 y154.length co1_y154) (encs (Value.int .i64) y154)]) := ⟨HM.out⟩; clear HM; have HM := n_; clear n_))
                go_roundg k9_
                case measure => have hHK8__ := HK8_.out; omega
                case rel => exact ⟨(wrap64 (x10_7 + 1)), (Ao1_y154), (co1_y154), (y154), (by first | rfl | (simp; done) | (simp [*]; done)), (by first | rfl | (simp; done) | (simp [*]; done)), H', ⟨by have hHK8__ := HK8_.out; omega⟩, HM⟩
              · rw [if_neg c17_] at H
                clear c17_
                exact absurd H (by simp)
          · rw [if_neg c11_] at H
            have c11_b0 : decide (0 ≤ x10_7) = false := decide_eq_false c11_
            clear c11_
            exact absurd H (by simp)
        · rw [if_neg c10_] at H
          have c10_b0 : decide (x10_7 < (t149.length : Int)) = false := decide_eq_false c10_
          clear c10_
          simp only [Option.some.injEq, Prod.mk.injEq] at H
          obtain ⟨rfl, rfl⟩ := H
          go_wp2
          go_ret2
          exact ⟨_, by first | rfl | (simp; done) | (simp [*]; done), HM.out.R 1 rfl, HM.out.below⟩
  · replace c2_ := Bool.eq_false_iff.mpr c2_
    subst c2_
    have H1 : (some (y147, false)) = some (r1, r2) := by rw [if_neg (show ¬ (false = true) by decide)] at H; exact H
    clear H
    have H := H1
    clear H1
    simp only [Option.some.injEq, Prod.mk.injEq] at H
    obtain ⟨rfl, rfl⟩ := H
    go_enter Try.func18, Try.ntmps18
    go_wp2_with (first | ((with_reducible refine gate_dst (N := 11) rfl ?_); refine Kd.R_lit (Kd.int .i64) _ 3 ?hg (N := 11) ?hd (xs := ([] : List Int)) (inner := []) (ok := fun _ => True) (okp := fun _ => True) ?hr ?hp (fun _ hk => hk) trivial (Below.refl _ _) (Nat.le_refl _) (by simp) ?_; (case hd => rfl); (case hg => rfl); (case hr => first | (go_simp; done) | (go_simp; rfl)); (case hp => exact (Reps.none _ _)); intro vv_ w21_ ho hb hg_ hnew_; clear hg_ hnew_; rw [← Ny147.out] at ho; obtain ⟨Ao1_0, co1_0, ev_⟩ := Kd.R_slice ho; subst ev_; have n_ := Aside0.mk (HM.out.addR hb ho); clear HM; have HM := n_; clear n_; clear hb ho) | ((with_reducible refine gate_callee (f := 28) rfl ?_); (with_reducible refine gate_dst (N := 15) rfl ?_); refine goesL_ (some 15) rfl rfl Try.func28 (by kernel_rfl) rfl #[.slice A0 l0.length c0, .int .i64 a1, .int .i64 a2] rfl (by (try simp only [List.map_toArray, List.map_cons, List.map_nil]); first | done | rfl | (simp only [List.length_drop, List.length_take]; rfl)) ?_; (with_reducible refine (spec_l9Good.calls k _ _ l0 a1 a2 false _ ?sd0 ?sd1 A1_.out).mono ?_); (case sd0 => exact (Kd.C_below HR0.out HM.out.below)); (case sd1 => exact HC0.out); rintro e_ w22_ ⟨rfl, hb⟩; refine ⟨_, rfl, ?_⟩; have n_ := Aside0.mk (HM.out.step hb); clear HM; have HM := n_; clear n_; clear hb))
    go_ret2
    exact ⟨_, by first | rfl | (simp; done) | (simp [*]; done), HM.out.R 0 rfl, HM.out.below⟩

/-! ### spec_DropMoves: function 26 -/
def spec_DropMoves.l0 : Nat → (Int) → (Int) → (Int) → (List Bool) → (List Int) → (List Int) → Option (List Int × Bool)
  | 0, _, _, _, _, _, _ => none
  | k + 1, x1, x2, x11, m3, m2, m1 => if x11 < (m2.length : Int) then (if 0 ≤ x11 then ((spec_l9Out.f x2 (rd m2 x11)).bind fun t160 => (if 0 ≤ t160 then (if t160 < 64 then (if rdOf false m3 t160 = true then (if m1.length < 17592186044416 then (spec_DropMoves.l0 k x1 x2 (wrap64 (x11 + 1)) m3 m2 (m1 ++ [rd m2 x11])) else (none)) else ((spec_l9Drop.f k m3 x1 t160).bind fun t164 => (if t164 = true then (spec_DropMoves.l0 k x1 x2 (wrap64 (x11 + 1)) m3 m2 m1) else (if m1.length < 17592186044416 then (spec_DropMoves.l0 k x1 x2 (wrap64 (x11 + 1)) m3 m2 (m1 ++ [rd m2 x11])) else (none))))) else (none)) else (none))) else (none)) else (some (m1, true))
def spec_DropMoves.f (k : Nat) (l0 : List Int) (a1 : Int) (a2 : Int) : Option (List Int × Bool) := (some (([] : List Int))).bind fun y155 => ((spec_l9Good.f k l0 a1 a2).bind fun t156 => (if t156 = true then ((spec_l3Table.f k l0).bind fun t157 => ((spec_l9Moves.f k a1 a2).bind fun t158 => (spec_DropMoves.l0 k a1 a2 0 t157 t158 y155))) else (some (y155, false))))
set_option maxHeartbeats 8000000 in
set_option maxRecDepth 100000 in
theorem spec_DropMoves.calls (k : Nat) (A0 : Option Addr) (c0 : Nat) (l0 : List Int) (a1 : Int) (a2 : Int) (r1 : List Int) (r2 : Bool) (w : World) (hr0 : Kd.C (Kd.int .i64) w A0 l0.length l0) (hc0 : l0.length ≤ c0) (h : spec_DropMoves.f k l0 a1 a2 = some (r1, r2)) :
    Calls Try.prog 26 #[.slice A0 l0.length c0, .int .i64 a1, .int .i64 a2] w fun e w' => ∃ v0_ : Value, e = .returned (.tuple #[v0_, .bool r2]) ∧ Kd.R (Kd.int .i64) 3 w' w.heap.size (fun _ => True) v0_ r1 ∧ Below w.heap.size w w' := by
  have HR0 := Aside0.mk hr0
  have HC0 := Aside0.mk hc0
  clear hr0 hc0
  have hu22 := Try.underlying22
  have hu44 := Try.underlying44
  have HM := Aside0.mk (MS.start w)
  have H : ((some (([] : List Int))).bind fun y155 => ((spec_l9Good.f k l0 a1 a2).bind fun t156 => (if t156 = true then ((spec_l3Table.f k l0).bind fun t157 => ((spec_l9Moves.f k a1 a2).bind fun t158 => (spec_DropMoves.l0 k a1 a2 0 t157 t158 y155))) else (some (y155, false))))) = some (r1, r2) := h
  clear h
  obtain ⟨y155, hy155⟩ : ∃ y_, y_ = (([] : List Int)) := ⟨_, rfl⟩
  replace H : ((spec_l9Good.f k l0 a1 a2).bind fun t156 => (if t156 = true then ((spec_l3Table.f k l0).bind fun t157 => ((spec_l9Moves.f k a1 a2).bind fun t158 => (spec_DropMoves.l0 k a1 a2 0 t157 t158 y155))) else (some (y155, false)))) = some (r1, r2) := by first | (rw [hy155]; with_reducible exact H) | (have H2_ := (Option.bind_some _ _).symm.trans H; rw [hy155]; with_reducible exact H2_) | (have H2_ := (Option.bind_some _ _).symm.trans H; with_reducible exact H2_) | with_reducible exact H | (rw [hy155]; exact H) | exact H
  have Ny155 := Aside0.mk hy155
  clear hy155
  replace H := Option.bind_eq_some_iff.mp H
  obtain ⟨t156, A1_0, H⟩ := H
  replace H : (if t156 = true then ((spec_l3Table.f k l0).bind fun t157 => ((spec_l9Moves.f k a1 a2).bind fun t158 => (spec_DropMoves.l0 k a1 a2 0 t157 t158 y155))) else (some (y155, false))) = some (r1, r2) := H
  have A1_ := Aside0.mk A1_0
  clear A1_0
  by_cases c2_ : t156 = true
  · subst c2_
    have H1 : ((spec_l3Table.f k l0).bind fun t157 => ((spec_l9Moves.f k a1 a2).bind fun t158 => (spec_DropMoves.l0 k a1 a2 0 t157 t158 y155))) = some (r1, r2) := by rw [if_pos rfl] at H; exact H
    clear H
    have H := H1
    clear H1
    replace H := Option.bind_eq_some_iff.mp H
    obtain ⟨t157, A3_0, H⟩ := H
    replace H : ((spec_l9Moves.f k a1 a2).bind fun t158 => (spec_DropMoves.l0 k a1 a2 0 t157 t158 y155)) = some (r1, r2) := H
    have A3_ := Aside0.mk A3_0
    clear A3_0
    replace H := Option.bind_eq_some_iff.mp H
    obtain ⟨t158, A4_0, H⟩ := H
    replace H : (spec_DropMoves.l0 k a1 a2 0 t157 t158 y155) = some (r1, r2) := H
    have A4_ := Aside0.mk A4_0
    clear A4_0
    have H' := Aside0.mk H
    clear H
    go_enter Try.func26, Try.ntmps26
    go_wp2_with (first | ((with_reducible refine gate_dst (N := 13) rfl ?_); refine Kd.R_lit (Kd.int .i64) _ 3 ?hg (N := 13) ?hd (xs := ([] : List Int)) (inner := []) (ok := fun _ => True) (okp := fun _ => True) ?hr ?hp (fun _ hk => hk) trivial (Below.refl _ _) (Nat.le_refl _) (by simp) ?_; (case hd => rfl); (case hg => rfl); (case hr => first | (go_simp; done) | (go_simp; rfl)); (case hp => exact (Reps.none _ _)); intro vv_ w5_ ho hb hg_ hnew_; clear hg_ hnew_; rw [← Ny155.out] at ho; obtain ⟨Ao1_0, co1_0, ev_⟩ := Kd.R_slice ho; subst ev_; have n_ := Aside0.mk (HM.out.addR hb ho); clear HM; have HM := n_; clear n_; clear hb ho) | ((with_reducible refine gate_callee (f := 28) rfl ?_); (with_reducible refine gate_dst (N := 17) rfl ?_); refine goesL_ (some 17) rfl rfl Try.func28 (by kernel_rfl) rfl #[.slice A0 l0.length c0, .int .i64 a1, .int .i64 a2] rfl (by (try simp only [List.map_toArray, List.map_cons, List.map_nil]); first | done | rfl | (simp only [List.length_drop, List.length_take]; rfl)) ?_; (with_reducible refine (spec_l9Good.calls k _ _ l0 a1 a2 true _ ?sd0 ?sd1 A1_.out).mono ?_); (case sd0 => exact (Kd.C_below HR0.out HM.out.below)); (case sd1 => exact HC0.out); rintro e_ w6_ ⟨rfl, hb⟩; refine ⟨_, rfl, ?_⟩; have n_ := Aside0.mk (HM.out.step hb); clear HM; have HM := n_; clear n_; clear hb) | ((with_reducible refine gate_callee (f := 36) rfl ?_); (with_reducible refine gate_dst (N := 21) rfl ?_); refine goesL_ (some 21) rfl rfl Try.func36 (by kernel_rfl) rfl #[.slice A0 l0.length c0] rfl (by (try simp only [List.map_toArray, List.map_cons, List.map_nil]); first | done | rfl | (simp only [List.length_drop, List.length_take]; rfl)) ?_; (with_reducible refine (spec_l3Table.calls k _ _ l0 t157 _ ?sd0 ?sd1 A3_.out).mono ?_); (case sd0 => exact (Kd.C_below HR0.out HM.out.below)); (case sd1 => exact HC0.out); rintro e_ w7_ ⟨rfl, ho0_, hb⟩; refine ⟨_, rfl, ?_⟩; have HLt157 := Aside0.mk ho0_; have n_ := Aside0.mk (HM.out.step hb); clear HM; have HM := n_; clear n_; clear hb ho0_) | ((with_reducible refine gate_callee (f := 39) rfl ?_); (with_reducible refine gate_dst (N := 24) rfl ?_); refine goesL_ (some 24) rfl rfl Try.func39 (by kernel_rfl) rfl #[.int .i64 a1, .int .i64 a2] rfl (by (try simp only [List.map_toArray, List.map_cons, List.map_nil]); first | done | rfl | (simp only [List.length_drop, List.length_take]; rfl)) ?_; (with_reducible refine (spec_l9Moves.calls k a1 a2 t158 _  A4_.out).mono ?_); rintro e_ w8_ ⟨vv0_, rfl, ho0_, hb⟩; refine ⟨_, rfl, ?_⟩; obtain ⟨Ao2_0, co2_0, ev_⟩ := Kd.R_slice ho0_; subst ev_; have n_ := Aside0.mk (HM.out.addR hb ho0_); clear HM; have HM := n_; clear n_; clear hb ho0_) | ((with_reducible refine gate_dst (N := 9) rfl ?_); refine box_event ?hg (N := 9) ?hd (cs := (bcs (List.replicate 64 false))) (t := 44) ?hr ?_; (case hd => rfl); (case hg => rfl); (case hr => first | (go_simp; done) | (go_simp; rfl)); intro gb3 hg w9_ hbox hb; have n_ := Aside0.mk (HM.out.addBox hb hbox hg); clear HM; have HM := n_; clear n_; clear hb hbox hg) | ((with_reducible refine gate_store (t := 44) (p := 9) rfl ?_); refine wpList_store_row rfl _ _ _ rfl gb3 (bcs t157) rfl rfl 44 (bcs (List.replicate 64 false)) (HM.out.box 0 rfl) (by rw [bcs_size, HLt157.out]; kernel_rfl) ((bcs_size _).trans (((List.length_replicate)).trans ((show _ = 64 from HLt157.out).symm.trans (bcs_size _).symm))) (bcs_one _) ?_; generalize hw : World.setRow _ _ _ = w10_; have n_ : Aside0 (MS w w10_ [.box gb3 44 (bcs t157), .row 3 (.slice Ao2_0 t158.length co2_0) (encs (Value.int .i64) t158), .row 3 (.slice Ao1_0 y155.length co1_0) (encs (Value.int .i64) y155)]) := ⟨by rw [← hw]; exact HM.out.setRow 0 rfl _⟩; clear HM hw; have HM := n_; clear n_))
    go_loopg [8, 11] k (fun kq v8 v11 w' => ∃ (x11_11 : Int) (Am1_11 : Option Addr) (cm1_11 : Nat) (m1_11 : List Int), v11 = .int .i64 x11_11 ∧ v8 = .slice Am1_11 m1_11.length cm1_11 ∧ Aside0 (spec_DropMoves.l0 kq a1 a2 x11_11 t157 t158 m1_11 = some (r1, r2)) ∧ Aside0 (kq ≤ k) ∧ Aside0 (MS w w' [.box gb3 44 (bcs t157), .row 3 (.slice Ao2_0 t158.length co2_0) (encs (Value.int .i64) t158), .row 3 (.slice Am1_11 m1_11.length cm1_11) (encs (Value.int .i64) m1_11)]))
    case atStart => exact ⟨(0), (Ao1_0), (co1_0), (y155), (by first | rfl | (simp; done) | (simp [*]; done)), (by first | rfl | (simp; done) | (simp [*]; done)), H', ⟨Nat.le_refl _⟩, HM⟩
    case round =>
      clear H'
      clear HM
      obtain ⟨x11_11, Am1_11, cm1_11, m1_11, rfl, rfl, HA, HK12_, HM⟩ := hrel
      cases gk with
      | zero => exact absurd HA.out (by simp [spec_DropMoves.l0])
      | succ k13_ =>
        have H := HA.out
        clear HA
        simp only [spec_DropMoves.l0] at H
        by_cases c14_ : x11_11 < (t158.length : Int)
        · rw [if_pos c14_] at H
          have c14_b0 : decide (x11_11 < (t158.length : Int)) = true := decide_eq_true c14_
          clear c14_
          by_cases c15_ : 0 ≤ x11_11
          · rw [if_pos c15_] at H
            have c15_b0 : decide (0 ≤ x11_11) = true := decide_eq_true c15_
            clear c15_
            replace H := Option.bind_eq_some_iff.mp H
            obtain ⟨t160, A16_0, H⟩ := H
            replace H : (if 0 ≤ t160 then (if t160 < 64 then (if rdOf false t157 t160 = true then (if m1_11.length < 17592186044416 then (spec_DropMoves.l0 k13_ a1 a2 (wrap64 (x11_11 + 1)) t157 t158 (m1_11 ++ [rd t158 x11_11])) else (none)) else ((spec_l9Drop.f k13_ t157 a1 t160).bind fun t164 => (if t164 = true then (spec_DropMoves.l0 k13_ a1 a2 (wrap64 (x11_11 + 1)) t157 t158 m1_11) else (if m1_11.length < 17592186044416 then (spec_DropMoves.l0 k13_ a1 a2 (wrap64 (x11_11 + 1)) t157 t158 (m1_11 ++ [rd t158 x11_11])) else (none))))) else (none)) else (none)) = some (r1, r2) := H
            have A16_ := Aside0.mk A16_0
            clear A16_0
            by_cases c17_ : 0 ≤ t160
            · rw [if_pos c17_] at H
              have c17_b0 : decide (0 ≤ t160) = true := decide_eq_true c17_
              clear c17_
              by_cases c18_ : t160 < 64
              · rw [if_pos c18_] at H
                have c18_b0 : decide (t160 < 64) = true := decide_eq_true c18_
                clear c18_
                by_cases c19_ : rdOf false t157 t160 = true
                · rw [if_pos c19_] at H
                  have c19_b0 : rdOf false t157 t160 = true := c19_
                  clear c19_
                  by_cases c20_ : m1_11.length < 17592186044416
                  · rw [if_pos c20_] at H
                    have LMc20_ := Aside0.mk c20_
                    clear c20_
                    obtain ⟨y163, hy163⟩ : ∃ y_, y_ = (m1_11 ++ [rd t158 x11_11]) := ⟨_, rfl⟩
                    replace H : (spec_DropMoves.l0 k13_ a1 a2 (wrap64 (x11_11 + 1)) t157 t158 y163) = some (r1, r2) := by first | (rw [hy163]; with_reducible exact H) | (have H2_ := (Option.bind_some _ _).symm.trans H; rw [hy163]; with_reducible exact H2_) | (have H2_ := (Option.bind_some _ _).symm.trans H; with_reducible exact H2_) | with_reducible exact H | (rw [hy163]; exact H) | exact H
                    have Ny163 := Aside0.mk hy163
                    clear hy163
                    have H' := Aside0.mk H
                    clear H
                    have p159 : 0 ≤ (x11_11 : Int) := of_decide_eq_true (by first | (with_reducible assumption) | assumption)
                    have q159 : (x11_11 : Int) < (t158.length : Int) := of_decide_eq_true (by first | (with_reducible assumption) | assumption)
                    obtain ⟨ad159, e159, hx159⟩ := Kd.at_int (Kd.R_reads' (HM.out.R (h1 := fun _ => rfl) 1 rfl)).2.2 x11_11 p159 q159
                    cases e159
                    replace p159 := eq_true p159
                    replace q159 := eq_true q159
                    go_wp2_with (first | ((with_reducible refine gate_callee (f := 32) rfl ?_); (with_reducible refine gate_dst (N := 36) rfl ?_); refine goesL_ (some 36) rfl rfl Try.func32 (by kernel_rfl) rfl #[.int .i64 a2, .int .i64 (rd t158 x11_11)] rfl (by (try simp only [List.map_toArray, List.map_cons, List.map_nil]); first | done | rfl | (simp only [List.length_drop, List.length_take]; rfl)) ?_; (with_reducible refine (spec_l9Out.calls a2 (rd t158 x11_11) t160 _  A16_.out).mono ?_); rintro e_ w21_ ⟨rfl, hd_⟩; refine ⟨_, rfl, ?_⟩; have hb := hd_.below; clear hd_; have n_ := Aside0.mk (HM.out.step hb); clear HM; have HM := n_; clear n_; clear hb; have p161 : 0 ≤ (t160 : Int) := of_decide_eq_true (by first | (with_reducible assumption) | assumption); have q161 : (t160 : Int) < 64 := of_decide_eq_true (by first | (with_reducible assumption) | assumption); have hx161 := bcell (HM.out.box 0 rfl) t160 p161 (by have := HLt157.out; omega); replace p161 := eq_true p161; replace q161 := eq_true q161; have p162 : 0 ≤ (x11_11 : Int) := of_decide_eq_true (by first | (with_reducible assumption) | assumption); have q162 : (x11_11 : Int) < (t158.length : Int) := of_decide_eq_true (by first | (with_reducible assumption) | assumption); obtain ⟨ad162, e162, hx162⟩ := Kd.at_int (Kd.R_reads' (HM.out.R (h1 := fun _ => rfl) 1 rfl)).2.2 x11_11 p162 q162; obtain rfl : ad159 = ad162 := (by injection e162); replace p162 := eq_true p162; replace q162 := eq_true q162) | ((with_reducible refine gate_builtin (b := .append) (xs := #[.tmp 47, .tmp 52]) rfl ?_); at_builtin; refine Kd.R_append (Kd.int .i64) (w0 := w) w.heap.size rfl (.tmp 47) (.tmp 52) 22 3 (.int .i64 0) 8 rfl Try.underlying22 info3 rfl (by decide) (by omega) (.slice Am1_11 m1_11.length cm1_11) m1_11 (rd t158 x11_11) [.int .i64 (rd t158 x11_11)] (fun _ => True) (fun _ => False) rfl rfl ?aP (fun _ hk => hk.elim) ?aF ?aO ?aB ?aS ?aL ?_; (case aP => exact rfl); (case aB => exact HM.out.below); (case aF => exact (fun _ _ => trivial)); (case aO => exact (HM.out.R 2 rfl)); (case aS => exact HM.out.size); (case aL => have := LMc20_.out; omega); intro vv_ w22_ ho hb hg hat; rw [← Ny163.out] at ho; have n_ := Aside0.mk (HM.out.grow 2 rfl ho hb hg hat); clear HM; have HM := n_; clear n_; obtain ⟨Ao1_y163, co1_y163, ev_⟩ := Kd.R_slice ho; subst ev_; clear ho hb hg hat; have n_ : Aside0 (MS w w22_ [.box gb3 44 (bcs t157), .row 3 (.slice (some ad159) t158.length co2_0) (encs (Value.int .i64) t158), .row 3 (.slice Ao1_y163 y163.length co1_y163) (encs (Value.int .i64) y163)]) := ⟨HM.out⟩; clear HM; have HM := n_; clear n_))
                    go_roundg k13_
                    case measure => have hHK12__ := HK12_.out; omega
                    case rel => exact ⟨(wrap64 (x11_11 + 1)), (Ao1_y163), (co1_y163), (y163), (by first | rfl | (simp; done) | (simp [*]; done)), (by first | rfl | (simp; done) | (simp [*]; done)), H', ⟨by have hHK12__ := HK12_.out; omega⟩, HM⟩
                  · rw [if_neg c20_] at H
                    clear c20_
                    exact absurd H (by simp)
                · rw [if_neg c19_] at H
                  have c19_b0 : rdOf false t157 t160 = false := by simpa using c19_
                  clear c19_
                  replace H := Option.bind_eq_some_iff.mp H
                  obtain ⟨t164, A23_0, H⟩ := H
                  replace H : (if t164 = true then (spec_DropMoves.l0 k13_ a1 a2 (wrap64 (x11_11 + 1)) t157 t158 m1_11) else (if m1_11.length < 17592186044416 then (spec_DropMoves.l0 k13_ a1 a2 (wrap64 (x11_11 + 1)) t157 t158 (m1_11 ++ [rd t158 x11_11])) else (none))) = some (r1, r2) := H
                  have A23_ := Aside0.mk A23_0
                  clear A23_0
                  by_cases c24_ : t164 = true
                  · subst c24_
                    have H1 : (spec_DropMoves.l0 k13_ a1 a2 (wrap64 (x11_11 + 1)) t157 t158 m1_11) = some (r1, r2) := by rw [if_pos rfl] at H; exact H
                    clear H
                    have H := H1
                    clear H1
                    have H' := Aside0.mk H
                    clear H
                    have p159 : 0 ≤ (x11_11 : Int) := of_decide_eq_true (by first | (with_reducible assumption) | assumption)
                    have q159 : (x11_11 : Int) < (t158.length : Int) := of_decide_eq_true (by first | (with_reducible assumption) | assumption)
                    obtain ⟨ad159, e159, hx159⟩ := Kd.at_int (Kd.R_reads' (HM.out.R (h1 := fun _ => rfl) 1 rfl)).2.2 x11_11 p159 q159
                    cases e159
                    replace p159 := eq_true p159
                    replace q159 := eq_true q159
                    go_wp2_with (first | ((with_reducible refine gate_callee (f := 32) rfl ?_); (with_reducible refine gate_dst (N := 36) rfl ?_); refine goesL_ (some 36) rfl rfl Try.func32 (by kernel_rfl) rfl #[.int .i64 a2, .int .i64 (rd t158 x11_11)] rfl (by (try simp only [List.map_toArray, List.map_cons, List.map_nil]); first | done | rfl | (simp only [List.length_drop, List.length_take]; rfl)) ?_; (with_reducible refine (spec_l9Out.calls a2 (rd t158 x11_11) t160 _  A16_.out).mono ?_); rintro e_ w25_ ⟨rfl, hd_⟩; refine ⟨_, rfl, ?_⟩; have hb := hd_.below; clear hd_; have n_ := Aside0.mk (HM.out.step hb); clear HM; have HM := n_; clear n_; clear hb; have p161 : 0 ≤ (t160 : Int) := of_decide_eq_true (by first | (with_reducible assumption) | assumption); have q161 : (t160 : Int) < 64 := of_decide_eq_true (by first | (with_reducible assumption) | assumption); have hx161 := bcell (HM.out.box 0 rfl) t160 p161 (by have := HLt157.out; omega); replace p161 := eq_true p161; replace q161 := eq_true q161) | (refine unguard (by (refine wanted_on (t := 40) rfl rfl rfl ?_); first | rfl | (simp [*]; done)) ?_; dsimp only; (with_reducible refine gate_dst (N := 41) rfl ?_); refine wpList_load_row rfl _ _ rfl gb3 rfl 44 (bcs t157) (0, 0) _ (HM.out.box 0 rfl) Try.underlying44 rfl (by rw [bcs_size, HLt157.out]; kernel_rfl) ?_) | (go_at_call 35; (refine calls_of_args (args' := #[.agg (bcs t157), .int .i64 a1, .int .i64 t160]) (by first | done | rfl) ?_); (with_reducible refine (spec_l9Drop.calls k13_ t157 a1 t160 true _ ?sd0 A23_.out).mono ?_); (case sd0 => exact HLt157.out); rintro e_ w26_ ⟨rfl, hb⟩; have n_ := Aside0.mk (HM.out.step hb); clear HM; have HM := n_; clear n_; clear hb))
                    go_roundg k13_
                    case measure => have hHK12__ := HK12_.out; omega
                    case rel => exact ⟨(wrap64 (x11_11 + 1)), (Am1_11), (cm1_11), (m1_11), (by first | rfl | (simp; done) | (simp [*]; done)), (by first | rfl | (simp; done) | (simp [*]; done)), H', ⟨by have hHK12__ := HK12_.out; omega⟩, HM⟩
                  · replace c24_ := Bool.eq_false_iff.mpr c24_
                    subst c24_
                    have H1 : (if m1_11.length < 17592186044416 then (spec_DropMoves.l0 k13_ a1 a2 (wrap64 (x11_11 + 1)) t157 t158 (m1_11 ++ [rd t158 x11_11])) else (none)) = some (r1, r2) := by rw [if_neg (show ¬ (false = true) by decide)] at H; exact H
                    clear H
                    have H := H1
                    clear H1
                    by_cases c27_ : m1_11.length < 17592186044416
                    · rw [if_pos c27_] at H
                      have LMc27_ := Aside0.mk c27_
                      clear c27_
                      obtain ⟨y166, hy166⟩ : ∃ y_, y_ = (m1_11 ++ [rd t158 x11_11]) := ⟨_, rfl⟩
                      replace H : (spec_DropMoves.l0 k13_ a1 a2 (wrap64 (x11_11 + 1)) t157 t158 y166) = some (r1, r2) := by first | (rw [hy166]; with_reducible exact H) | (have H2_ := (Option.bind_some _ _).symm.trans H; rw [hy166]; with_reducible exact H2_) | (have H2_ := (Option.bind_some _ _).symm.trans H; with_reducible exact H2_) | with_reducible exact H | (rw [hy166]; exact H) | exact H
                      have Ny166 := Aside0.mk hy166
                      clear hy166
                      have H' := Aside0.mk H
                      clear H
                      have p159 : 0 ≤ (x11_11 : Int) := of_decide_eq_true (by first | (with_reducible assumption) | assumption)
                      have q159 : (x11_11 : Int) < (t158.length : Int) := of_decide_eq_true (by first | (with_reducible assumption) | assumption)
                      obtain ⟨ad159, e159, hx159⟩ := Kd.at_int (Kd.R_reads' (HM.out.R (h1 := fun _ => rfl) 1 rfl)).2.2 x11_11 p159 q159
                      cases e159
                      replace p159 := eq_true p159
                      replace q159 := eq_true q159
                      go_wp2_with (first | ((with_reducible refine gate_callee (f := 32) rfl ?_); (with_reducible refine gate_dst (N := 36) rfl ?_); refine goesL_ (some 36) rfl rfl Try.func32 (by kernel_rfl) rfl #[.int .i64 a2, .int .i64 (rd t158 x11_11)] rfl (by (try simp only [List.map_toArray, List.map_cons, List.map_nil]); first | done | rfl | (simp only [List.length_drop, List.length_take]; rfl)) ?_; (with_reducible refine (spec_l9Out.calls a2 (rd t158 x11_11) t160 _  A16_.out).mono ?_); rintro e_ w28_ ⟨rfl, hd_⟩; refine ⟨_, rfl, ?_⟩; have hb := hd_.below; clear hd_; have n_ := Aside0.mk (HM.out.step hb); clear HM; have HM := n_; clear n_; clear hb; have p161 : 0 ≤ (t160 : Int) := of_decide_eq_true (by first | (with_reducible assumption) | assumption); have q161 : (t160 : Int) < 64 := of_decide_eq_true (by first | (with_reducible assumption) | assumption); have hx161 := bcell (HM.out.box 0 rfl) t160 p161 (by have := HLt157.out; omega); replace p161 := eq_true p161; replace q161 := eq_true q161) | (refine unguard (by (refine wanted_on (t := 40) rfl rfl rfl ?_); first | rfl | (simp [*]; done)) ?_; dsimp only; (with_reducible refine gate_dst (N := 41) rfl ?_); refine wpList_load_row rfl _ _ rfl gb3 rfl 44 (bcs t157) (0, 0) _ (HM.out.box 0 rfl) Try.underlying44 rfl (by rw [bcs_size, HLt157.out]; kernel_rfl) ?_) | (go_at_call 35; (refine calls_of_args (args' := #[.agg (bcs t157), .int .i64 a1, .int .i64 t160]) (by first | done | rfl) ?_); (with_reducible refine (spec_l9Drop.calls k13_ t157 a1 t160 false _ ?sd0 A23_.out).mono ?_); (case sd0 => exact HLt157.out); rintro e_ w29_ ⟨rfl, hb⟩; have n_ := Aside0.mk (HM.out.step hb); clear HM; have HM := n_; clear n_; clear hb; have p165 : 0 ≤ (x11_11 : Int) := of_decide_eq_true (by first | (with_reducible assumption) | assumption); have q165 : (x11_11 : Int) < (t158.length : Int) := of_decide_eq_true (by first | (with_reducible assumption) | assumption); obtain ⟨ad165, e165, hx165⟩ := Kd.at_int (Kd.R_reads' (HM.out.R (h1 := fun _ => rfl) 1 rfl)).2.2 x11_11 p165 q165; obtain rfl : ad159 = ad165 := (by injection e165); replace p165 := eq_true p165; replace q165 := eq_true q165) | ((with_reducible refine gate_builtin (b := .append) (xs := #[.tmp 47, .tmp 52]) rfl ?_); at_builtin; refine Kd.R_append (Kd.int .i64) (w0 := w) w.heap.size rfl (.tmp 47) (.tmp 52) 22 3 (.int .i64 0) 8 rfl Try.underlying22 info3 rfl (by decide) (by omega) (.slice Am1_11 m1_11.length cm1_11) m1_11 (rd t158 x11_11) [.int .i64 (rd t158 x11_11)] (fun _ => True) (fun _ => False) rfl rfl ?aP (fun _ hk => hk.elim) ?aF ?aO ?aB ?aS ?aL ?_; (case aP => exact rfl); (case aB => exact HM.out.below); (case aF => exact (fun _ _ => trivial)); (case aO => exact (HM.out.R 2 rfl)); (case aS => exact HM.out.size); (case aL => have := LMc27_.out; omega); intro vv_ w30_ ho hb hg hat; rw [← Ny166.out] at ho; have n_ := Aside0.mk (HM.out.grow 2 rfl ho hb hg hat); clear HM; have HM := n_; clear n_; obtain ⟨Ao1_y166, co1_y166, ev_⟩ := Kd.R_slice ho; subst ev_; clear ho hb hg hat; have n_ : Aside0 (MS w w30_ [.box gb3 44 (bcs t157), .row 3 (.slice (some ad159) t158.length co2_0) (encs (Value.int .i64) t158), .row 3 (.slice Ao1_y166 y166.length co1_y166) (encs (Value.int .i64) y166)]) := ⟨HM.out⟩; clear HM; have HM := n_; clear n_))
                      go_roundg k13_
                      case measure => have hHK12__ := HK12_.out; omega
                      case rel => exact ⟨(wrap64 (x11_11 + 1)), (Ao1_y166), (co1_y166), (y166), (by first | rfl | (simp; done) | (simp [*]; done)), (by first | rfl | (simp; done) | (simp [*]; done)), H', ⟨by have hHK12__ := HK12_.out; omega⟩, HM⟩
                    · rw [if_neg c27_] at H
                      clear c27_
                      exact absurd H (by simp)
              · rw [if_neg c18_] at H
                have c18_b0 : decide (t160 < 64) = false := decide_eq_false c18_
                clear c18_
                exact absurd H (by simp)
            · rw [if_neg c17_] at H
              have c17_b0 : decide (0 ≤ t160) = false := decide_eq_false c17_
              clear c17_
              exact absurd H (by simp)
          · rw [if_neg c15_] at H
            have c15_b0 : decide (0 ≤ x11_11) = false := decide_eq_false c15_
            clear c15_
            exact absurd H (by simp)
        · rw [if_neg c14_] at H
          have c14_b0 : decide (x11_11 < (t158.length : Int)) = false := decide_eq_false c14_
          clear c14_
          simp only [Option.some.injEq, Prod.mk.injEq] at H
          obtain ⟨rfl, rfl⟩ := H
          go_wp2
          go_ret2
          exact ⟨_, by first | rfl | (simp; done) | (simp [*]; done), HM.out.R 2 rfl, HM.out.below⟩
  · replace c2_ := Bool.eq_false_iff.mpr c2_
    subst c2_
    have H1 : (some (y155, false)) = some (r1, r2) := by rw [if_neg (show ¬ (false = true) by decide)] at H; exact H
    clear H
    have H := H1
    clear H1
    simp only [Option.some.injEq, Prod.mk.injEq] at H
    obtain ⟨rfl, rfl⟩ := H
    go_enter Try.func26, Try.ntmps26
    go_wp2_with (first | ((with_reducible refine gate_dst (N := 13) rfl ?_); refine Kd.R_lit (Kd.int .i64) _ 3 ?hg (N := 13) ?hd (xs := ([] : List Int)) (inner := []) (ok := fun _ => True) (okp := fun _ => True) ?hr ?hp (fun _ hk => hk) trivial (Below.refl _ _) (Nat.le_refl _) (by simp) ?_; (case hd => rfl); (case hg => rfl); (case hr => first | (go_simp; done) | (go_simp; rfl)); (case hp => exact (Reps.none _ _)); intro vv_ w31_ ho hb hg_ hnew_; clear hg_ hnew_; rw [← Ny155.out] at ho; obtain ⟨Ao1_0, co1_0, ev_⟩ := Kd.R_slice ho; subst ev_; have n_ := Aside0.mk (HM.out.addR hb ho); clear HM; have HM := n_; clear n_; clear hb ho) | ((with_reducible refine gate_callee (f := 28) rfl ?_); (with_reducible refine gate_dst (N := 17) rfl ?_); refine goesL_ (some 17) rfl rfl Try.func28 (by kernel_rfl) rfl #[.slice A0 l0.length c0, .int .i64 a1, .int .i64 a2] rfl (by (try simp only [List.map_toArray, List.map_cons, List.map_nil]); first | done | rfl | (simp only [List.length_drop, List.length_take]; rfl)) ?_; (with_reducible refine (spec_l9Good.calls k _ _ l0 a1 a2 false _ ?sd0 ?sd1 A1_.out).mono ?_); (case sd0 => exact (Kd.C_below HR0.out HM.out.below)); (case sd1 => exact HC0.out); rintro e_ w32_ ⟨rfl, hb⟩; refine ⟨_, rfl, ?_⟩; have n_ := Aside0.mk (HM.out.step hb); clear HM; have HM := n_; clear n_; clear hb))
    go_ret2
    exact ⟨_, by first | rfl | (simp; done) | (simp [*]; done), HM.out.R 0 rfl, HM.out.below⟩

/-! ### spec_l9Length: function 41 -/
mutual
def spec_l9Length.l0 : Nat → (Int) → (Int) → (Bool) → (Int) → (Int) → (List Int) → (List Bool) → Option (Int)
  | 0, _, _, _, _, _, _, _ => none
  | k + 1, x1, x2, x3, x9, x11, m2, m1 => if x11 < (m2.length : Int) then (if 0 ≤ x11 then ((spec_l9Out.f x2 (rd m2 x11)).bind fun t170 => ((spec_l9Length.f k m1 x1 t170 x3).bind fun t171 => (if x9 < 0 then (spec_l9Length.l0 k x1 x2 x3 (wrap64 (1 + t171)) (wrap64 (x11 + 1)) m2 m1) else (if x3 = true then (if (wrap64 (1 + t171)) > x9 then (spec_l9Length.l0 k x1 x2 x3 (wrap64 (1 + t171)) (wrap64 (x11 + 1)) m2 m1) else (spec_l9Length.l0 k x1 x2 x3 x9 (wrap64 (x11 + 1)) m2 m1)) else (if (wrap64 (1 + t171)) < x9 then (spec_l9Length.l0 k x1 x2 x3 (wrap64 (1 + t171)) (wrap64 (x11 + 1)) m2 m1) else (spec_l9Length.l0 k x1 x2 x3 x9 (wrap64 (x11 + 1)) m2 m1)))))) else (none)) else (some x9)
def spec_l9Length.f : Nat → (List Bool) → (Int) → (Int) → (Bool) → Option (Int)
  | 0, _, _, _, _ => none
  | k + 1, l0, a1, a2, a3 => if 0 ≤ a2 then (if a2 < 64 then (if rdOf false l0 a2 = true then (some 0) else ((spec_l9Moves.f k a1 a2).bind fun t168 => (spec_l9Length.l0 k a1 a2 a3 (-1) 0 t168 l0))) else (none)) else (none)
end
set_option maxHeartbeats 8000000 in
set_option maxRecDepth 100000 in
theorem spec_l9Length.calls (k : Nat) : ∀ (l0 : List Bool) (a1 : Int) (a2 : Int) (a3 : Bool) (r : Int) (w : World) (hl0 : l0.length = 64) (h : spec_l9Length.f k l0 a1 a2 a3 = some r),
    Calls Try.prog 41 #[.agg (bcs l0), .int .i64 a1, .int .i64 a2, .bool a3] w fun e w' => e = .returned (.int .i64 r) ∧ Below w.heap.size w w' := by
  induction k using Nat.strongRecOn with
  | _ k ih =>
  intro l0 a1 a2 a3 r w hl0 h
  cases k with
  | zero => exact absurd h (by simp [spec_l9Length.f])
  | succ k =>
  simp only [spec_l9Length.f] at h
  have HL0 := Aside0.mk hl0
  clear hl0
  have hu22 := Try.underlying22
  have hu44 := Try.underlying44
  have HM := Aside0.mk (MS.start w)
  have H : (if 0 ≤ a2 then (if a2 < 64 then (if rdOf false l0 a2 = true then (some 0) else ((spec_l9Moves.f k a1 a2).bind fun t168 => (spec_l9Length.l0 k a1 a2 a3 (-1) 0 t168 l0))) else (none)) else (none)) = some r := h
  clear h
  by_cases c1_ : 0 ≤ a2
  · rw [if_pos c1_] at H
    have c1_b0 : decide (0 ≤ a2) = true := decide_eq_true c1_
    clear c1_
    by_cases c2_ : a2 < 64
    · rw [if_pos c2_] at H
      have c2_b0 : decide (a2 < 64) = true := decide_eq_true c2_
      clear c2_
      by_cases c3_ : rdOf false l0 a2 = true
      · rw [if_pos c3_] at H
        have c3_b0 : rdOf false l0 a2 = true := c3_
        clear c3_
        obtain rfl := Option.some.inj H
        go_enter Try.func41, Try.ntmps41
        go_wp2_with (first | ((with_reducible refine gate_dst (N := 4) rfl ?_); refine box_event ?hg (N := 4) ?hd (cs := (bcs l0)) (t := 44) ?hr ?_; (case hd => rfl); (case hg => rfl); (case hr => first | (go_simp; done) | (go_simp; rfl)); intro gb1 hg w4_ hbox hb; have n_ := Aside0.mk (HM.out.addBox hb hbox hg); clear HM; have HM := n_; clear n_; clear hb hbox hg; have p167 : 0 ≤ (a2 : Int) := of_decide_eq_true (by first | (with_reducible assumption) | assumption); have q167 : (a2 : Int) < 64 := of_decide_eq_true (by first | (with_reducible assumption) | assumption); have hx167 := bcell (HM.out.box 0 rfl) a2 p167 (by have := HL0.out; omega); replace p167 := eq_true p167; replace q167 := eq_true q167))
        go_ret
        exact ⟨by first | rfl | (simp; done) | (simp [*]; done), HM.out.below⟩
      · rw [if_neg c3_] at H
        have c3_b0 : rdOf false l0 a2 = false := by simpa using c3_
        clear c3_
        replace H := Option.bind_eq_some_iff.mp H
        obtain ⟨t168, A5_0, H⟩ := H
        replace H : (spec_l9Length.l0 k a1 a2 a3 (-1) 0 t168 l0) = some r := H
        have A5_ := Aside0.mk A5_0
        clear A5_0
        have H' := Aside0.mk H
        clear H
        go_enter Try.func41, Try.ntmps41
        go_wp2_with (first | ((with_reducible refine gate_dst (N := 4) rfl ?_); refine box_event ?hg (N := 4) ?hd (cs := (bcs l0)) (t := 44) ?hr ?_; (case hd => rfl); (case hg => rfl); (case hr => first | (go_simp; done) | (go_simp; rfl)); intro gb1 hg w6_ hbox hb; have n_ := Aside0.mk (HM.out.addBox hb hbox hg); clear HM; have HM := n_; clear n_; clear hb hbox hg; have p167 : 0 ≤ (a2 : Int) := of_decide_eq_true (by first | (with_reducible assumption) | assumption); have q167 : (a2 : Int) < 64 := of_decide_eq_true (by first | (with_reducible assumption) | assumption); have hx167 := bcell (HM.out.box 0 rfl) a2 p167 (by have := HL0.out; omega); replace p167 := eq_true p167; replace q167 := eq_true q167) | ((with_reducible refine gate_callee (f := 39) rfl ?_); (with_reducible refine gate_dst (N := 18) rfl ?_); refine goesL_ (some 18) rfl rfl Try.func39 (by kernel_rfl) rfl #[.int .i64 a1, .int .i64 a2] rfl (by (try simp only [List.map_toArray, List.map_cons, List.map_nil]); first | done | rfl | (simp only [List.length_drop, List.length_take]; rfl)) ?_; (with_reducible refine (spec_l9Moves.calls k a1 a2 t168 _  A5_.out).mono ?_); rintro e_ w7_ ⟨vv0_, rfl, ho0_, hb⟩; refine ⟨_, rfl, ?_⟩; obtain ⟨Ao2_0, co2_0, ev_⟩ := Kd.R_slice ho0_; subst ev_; have n_ := Aside0.mk (HM.out.addR hb ho0_); clear HM; have HM := n_; clear n_; clear hb ho0_))
        go_loopg [9, 11] k (fun kq v9 v11 w' => ∃ (x9_8 : Int) (x11_8 : Int), v9 = .int .i64 x9_8 ∧ v11 = .int .i64 x11_8 ∧ Aside0 (spec_l9Length.l0 kq a1 a2 a3 x9_8 x11_8 t168 l0 = some r) ∧ Aside0 (kq ≤ k) ∧ Aside0 (MS w w' [.row 3 (.slice Ao2_0 t168.length co2_0) (encs (Value.int .i64) t168), .box gb1 44 (bcs l0)]))
        case atStart => exact ⟨((-1)), (0), (by first | rfl | (simp; done) | (simp [*]; done)), (by first | rfl | (simp; done) | (simp [*]; done)), H', ⟨Nat.le_refl _⟩, HM⟩
        case round =>
          clear H'
          clear HM
          obtain ⟨x9_8, x11_8, rfl, rfl, HA, HK9_, HM⟩ := hrel
          cases gk with
          | zero => exact absurd HA.out (by simp [spec_l9Length.l0])
          | succ k10_ =>
            have H := HA.out
            clear HA
            simp only [spec_l9Length.l0] at H
            by_cases c11_ : x11_8 < (t168.length : Int)
            · rw [if_pos c11_] at H
              have c11_b0 : decide (x11_8 < (t168.length : Int)) = true := decide_eq_true c11_
              clear c11_
              by_cases c12_ : 0 ≤ x11_8
              · rw [if_pos c12_] at H
                have c12_b0 : decide (0 ≤ x11_8) = true := decide_eq_true c12_
                clear c12_
                replace H := Option.bind_eq_some_iff.mp H
                obtain ⟨t170, A13_0, H⟩ := H
                replace H : ((spec_l9Length.f k10_ l0 a1 t170 a3).bind fun t171 => (if x9_8 < 0 then (spec_l9Length.l0 k10_ a1 a2 a3 (wrap64 (1 + t171)) (wrap64 (x11_8 + 1)) t168 l0) else (if a3 = true then (if (wrap64 (1 + t171)) > x9_8 then (spec_l9Length.l0 k10_ a1 a2 a3 (wrap64 (1 + t171)) (wrap64 (x11_8 + 1)) t168 l0) else (spec_l9Length.l0 k10_ a1 a2 a3 x9_8 (wrap64 (x11_8 + 1)) t168 l0)) else (if (wrap64 (1 + t171)) < x9_8 then (spec_l9Length.l0 k10_ a1 a2 a3 (wrap64 (1 + t171)) (wrap64 (x11_8 + 1)) t168 l0) else (spec_l9Length.l0 k10_ a1 a2 a3 x9_8 (wrap64 (x11_8 + 1)) t168 l0))))) = some r := H
                have A13_ := Aside0.mk A13_0
                clear A13_0
                replace H := Option.bind_eq_some_iff.mp H
                obtain ⟨t171, A14_0, H⟩ := H
                replace H : (if x9_8 < 0 then (spec_l9Length.l0 k10_ a1 a2 a3 (wrap64 (1 + t171)) (wrap64 (x11_8 + 1)) t168 l0) else (if a3 = true then (if (wrap64 (1 + t171)) > x9_8 then (spec_l9Length.l0 k10_ a1 a2 a3 (wrap64 (1 + t171)) (wrap64 (x11_8 + 1)) t168 l0) else (spec_l9Length.l0 k10_ a1 a2 a3 x9_8 (wrap64 (x11_8 + 1)) t168 l0)) else (if (wrap64 (1 + t171)) < x9_8 then (spec_l9Length.l0 k10_ a1 a2 a3 (wrap64 (1 + t171)) (wrap64 (x11_8 + 1)) t168 l0) else (spec_l9Length.l0 k10_ a1 a2 a3 x9_8 (wrap64 (x11_8 + 1)) t168 l0)))) = some r := H
                have A14_ := Aside0.mk A14_0
                clear A14_0
                by_cases c15_ : x9_8 < 0
                · rw [if_pos c15_] at H
                  have c15_b0 : decide (x9_8 < 0) = true := decide_eq_true c15_
                  clear c15_
                  have H' := Aside0.mk H
                  clear H
                  go_wp2
                  have p169 : 0 ≤ (x11_8 : Int) := of_decide_eq_true (by first | (with_reducible assumption) | assumption)
                  have q169 : (x11_8 : Int) < (t168.length : Int) := of_decide_eq_true (by first | (with_reducible assumption) | assumption)
                  obtain ⟨ad169, e169, hx169⟩ := Kd.at_int (Kd.R_reads' (HM.out.R (h1 := fun _ => rfl) 0 rfl)).2.2 x11_8 p169 q169
                  cases e169
                  have hp169 := Aside0.mk p169
                  have hq169 := Aside0.mk q169
                  replace p169 := eq_true p169
                  replace q169 := eq_true q169
                  have n_ := Aside0.mk (HM.out.step (below_drew1 (Below.refl wr.heap.size wr)))
                  clear HM
                  have HM := n_
                  clear n_
                  refine start_ (n := 12) (S := fun w' => (w'.heap[gb1]? = some (.cells (bcs l0) 44 (0, 0))) ∧ (w'.cell? (ad169.add (x11_8 : Int).toNat) = some (.int .i64 (rd t168 x11_8)))) (ds := []) #[false, false, false, false, false, false, false, false, false, false, false, false] (by kernel_rfl) rfl rfl (⟨(HM.out.box 1 rfl), (by obtain ⟨ad_, e_, h_⟩ := Kd.at_int (Kd.R_reads' (HM.out.R (h1 := fun _ => rfl) 0 rfl)).2.2 x11_8 hp169.out hq169.out; cases e_; exact h_)⟩) (fun hHeld => ?_)
                  generalize wr.drew = w16_ at HM hHeld ⊢
                  refine take_ (i := 0) (N := some 25) (v := ?_) (a' := ?_) #[true, false, false, false, false, false, false, false, false, false, false, false] rfl rfl (by kernel_rfl) (fun _ _ _ h => h) (Or.inl ⟨by rfl, ?_⟩) hHeld ?_ ?_
                  rotate_left
                  · intro w' s0
                    refine load_arr 44 (.tmp 4) ?hoe17_ gb1 ?hxe17_ 44 (bcs l0) (0, 0) _ (s0.1) Try.underlying44 rfl (by rw [bcs_size, HL0.out]; kernel_rfl)
                    (case hoe17_ => rfl)
                    (case hxe17_ => rfl)
                  rotate_left
                  · simp only [Act.put, List.setIfInBounds_toArray, List.set_cons_zero, List.set_cons_succ, i64_w, i32_w]
                    rfl
                  refine pure_ (i := 1) (N := some 26) (v := ?_) (a' := ?_) #[true, true, false, false, false, false, false, false, false, false, false, false] rfl rfl (by kernel_rfl) (fun _ _ _ h => h) (Or.inl ⟨by rfl, ?_⟩) ?_ ?_
                  rotate_left
                  · intro w'
                    go_simp
                    first | with_reducible rfl | (simp [Instr.field, asAgg, Go.part, run_underlying hu22, run_underlying hu44]; rfl) | rfl
                  rotate_left
                  · simp only [Act.put, List.setIfInBounds_toArray, List.set_cons_zero, List.set_cons_succ, i64_w, i32_w]
                    rfl
                  refine pure_ (i := 2) (N := some 27) (v := ?_) (a' := ?_) #[true, true, true, false, false, false, false, false, false, false, false, false] rfl rfl (by kernel_rfl) (fun _ _ _ h => h) (Or.inl ⟨by rfl, ?_⟩) ?_ ?_
                  rotate_left
                  · intro w'
                    go_simp
                    first | with_reducible rfl | (simp [Instr.field, asAgg, Go.part, run_underlying hu22, run_underlying hu44]; rfl) | rfl
                  rotate_left
                  · simp only [Act.put, List.setIfInBounds_toArray, List.set_cons_zero, List.set_cons_succ, i64_w, i32_w]
                    rfl
                  refine pure_ (i := 3) (N := some 28) (v := ?_) (a' := ?_) #[true, true, true, true, false, false, false, false, false, false, false, false] rfl rfl (by kernel_rfl) (fun _ _ _ h => h) (Or.inl ⟨by rfl, ?_⟩) ?_ ?_
                  rotate_left
                  · intro w'
                    go_simp
                    first | with_reducible rfl | (simp [Instr.field, asAgg, Go.part, run_underlying hu22, run_underlying hu44]; rfl) | rfl
                  rotate_left
                  · simp only [Act.put, List.setIfInBounds_toArray, List.set_cons_zero, List.set_cons_succ, i64_w, i32_w]
                    rfl
                  refine pure_ (i := 4) (N := some 29) (v := ?_) (a' := ?_) #[true, true, true, true, true, false, false, false, false, false, false, false] rfl rfl (by kernel_rfl) (fun _ _ _ h => h) (Or.inl ⟨by rfl, ?_⟩) ?_ ?_
                  rotate_left
                  · intro w'
                    go_simp
                    first | with_reducible rfl | (simp [Instr.field, asAgg, Go.part, run_underlying hu22, run_underlying hu44]; rfl) | rfl
                  rotate_left
                  · simp only [Act.put, List.setIfInBounds_toArray, List.set_cons_zero, List.set_cons_succ, i64_w, i32_w]
                    rfl
                  refine pure_ (i := 5) (N := some 30) (v := ?_) (a' := ?_) #[true, true, true, true, true, true, false, false, false, false, false, false] rfl rfl (by kernel_rfl) (fun _ _ _ h => h) (Or.inl ⟨by rfl, ?_⟩) ?_ ?_
                  rotate_left
                  · intro w'
                    go_simp
                    first | with_reducible rfl | (simp [Instr.field, asAgg, Go.part, run_underlying hu22, run_underlying hu44]; rfl) | rfl
                  rotate_left
                  · simp only [Act.put, List.setIfInBounds_toArray, List.set_cons_zero, List.set_cons_succ, i64_w, i32_w]
                    rfl
                  refine take_ (i := 6) (N := some 31) (v := ?_) (a' := ?_) #[true, true, true, true, true, true, true, false, false, false, false, false] rfl rfl (by kernel_rfl) (fun _ _ _ h => h) (Or.inl ⟨by rfl, ?_⟩) hHeld ?_ ?_
                  rotate_left
                  · intro w' s0
                    obtain ⟨s0_, s1_⟩ := s0
                    go_simp
                    first | with_reducible rfl | (simp [Instr.field, asAgg, Go.part, run_underlying hu22, run_underlying hu44]; rfl) | rfl
                  rotate_left
                  · simp only [Act.put, List.setIfInBounds_toArray, List.set_cons_zero, List.set_cons_succ, i64_w, i32_w]
                    rfl
                  refine pure_ (i := 8) (N := some 33) (v := ?_) (a' := ?_) #[true, true, true, true, true, true, true, false, true, false, false, false] rfl rfl (by kernel_rfl) (fun _ _ _ h => h) (Or.inl ⟨by rfl, ?_⟩) ?_ ?_
                  rotate_left
                  · intro w'
                    go_simp
                    first | with_reducible rfl | (simp [Instr.field, asAgg, Go.part, run_underlying hu22, run_underlying hu44]; rfl) | rfl
                  rotate_left
                  · simp only [Act.put, List.setIfInBounds_toArray, List.set_cons_zero, List.set_cons_succ, i64_w, i32_w]
                    rfl
                  refine one_ (i := 7) (N := some 32) #[true, true, true, true, true, true, true, true, true, false, false, false] rfl rfl (by kernel_rfl) (by decide) (fun K hK => ?_)
                  refine goes_ Try.func32 (by kernel_rfl) rfl #[.int .i64 a2, .int .i64 (rd t168 x11_8)] (by rfl) rfl rfl (by (try simp only [List.map_toArray, List.map_cons, List.map_nil]); first | done | rfl | (simp only [List.length_drop, List.length_take]; rfl)) ?_
                  with_reducible refine (spec_l9Out.calls a2 (rd t168 x11_8) t170 _  A13_.out).mono ?_
                  rintro e_ w18_ ⟨rfl, hd_⟩
                  refine ⟨_, rfl, ?_⟩
                  have hb := hd_.below
                  clear hd_
                  have n_ := Aside0.mk (HM.out.step hb)
                  clear HM
                  have HM := n_
                  clear n_
                  clear hb
                  refine hK.out _ _ (⟨(HM.out.box 1 rfl), (by obtain ⟨ad_, e_, h_⟩ := Kd.at_int (Kd.R_reads' (HM.out.R (h1 := fun _ => rfl) 0 rfl)).2.2 x11_8 hp169.out hq169.out; cases e_; exact h_)⟩) (fun hHeld => ?_)
                  clear hK K
                  refine norm_ (a' := ?_) ?_ ?_
                  rotate_left
                  · show Act.put _ (some 32) _ = _
                    simp only [Act.put, List.setIfInBounds_toArray, List.set_cons_zero, List.set_cons_succ, i64_w, i32_w]
                    rfl
                  refine one_ (i := 9) (N := some 34) #[true, true, true, true, true, true, true, true, true, true, false, false] rfl rfl (by kernel_rfl) (by decide) (fun K hK => ?_)
                  refine goes_ Try.func41 (by kernel_rfl) rfl #[.agg (bcs l0), .int .i64 a1, .int .i64 t170, .bool a3] (by rfl) rfl rfl (by (try simp only [List.map_toArray, List.map_cons, List.map_nil]); first | done | rfl | (simp only [List.length_drop, List.length_take]; rfl)) ?_
                  with_reducible refine ((ih k10_ (by have hHK9__ := HK9_.out; omega)) l0 a1 t170 a3 t171 _ ?sd0 A14_.out).mono ?_
                  (case sd0 => exact HL0.out)
                  rintro e_ w19_ ⟨rfl, hb⟩
                  refine ⟨_, rfl, ?_⟩
                  have n_ := Aside0.mk (HM.out.step hb)
                  clear HM
                  have HM := n_
                  clear n_
                  clear hb
                  refine hK.out _ _ (⟨(HM.out.box 1 rfl), (by obtain ⟨ad_, e_, h_⟩ := Kd.at_int (Kd.R_reads' (HM.out.R (h1 := fun _ => rfl) 0 rfl)).2.2 x11_8 hp169.out hq169.out; cases e_; exact h_)⟩) (fun hHeld => ?_)
                  clear hK K
                  refine norm_ (a' := ?_) ?_ ?_
                  rotate_left
                  · show Act.put _ (some 34) _ = _
                    simp only [Act.put, List.setIfInBounds_toArray, List.set_cons_zero, List.set_cons_succ, i64_w, i32_w]
                    rfl
                  refine pure_ (i := 10) (N := some 35) (v := ?_) (a' := ?_) #[true, true, true, true, true, true, true, true, true, true, true, false] rfl rfl (by kernel_rfl) (fun _ _ _ h => h) (Or.inl ⟨by rfl, ?_⟩) ?_ ?_
                  rotate_left
                  · intro w'
                    go_simp
                    first | with_reducible rfl | (simp [Instr.field, asAgg, Go.part, run_underlying hu22, run_underlying hu44]; rfl) | rfl
                  rotate_left
                  · simp only [Act.put, List.setIfInBounds_toArray, List.set_cons_zero, List.set_cons_succ, i64_w, i32_w]
                    rfl
                  refine pure_ (i := 11) (N := some 12) (v := ?_) (a' := ?_) #[true, true, true, true, true, true, true, true, true, true, true, true] rfl rfl (by kernel_rfl) (fun _ _ _ h => h) (Or.inl ⟨by rfl, ?_⟩) ?_ ?_
                  rotate_left
                  · intro w'
                    go_simp
                    first | with_reducible rfl | (simp [Instr.field, asAgg, Go.part, run_underlying hu22, run_underlying hu44]; rfl) | rfl
                  rotate_left
                  · simp only [Act.put, List.setIfInBounds_toArray, List.set_cons_zero, List.set_cons_succ, i64_w, i32_w]
                    rfl
                  refine done_ (by kernel_rfl) ?_
                  go_wp2
                  go_roundg k10_
                  case measure => have hHK9__ := HK9_.out; omega
                  case rel => exact ⟨(wrap64 (1 + t171)), (wrap64 (x11_8 + 1)), (by first | rfl | (simp; done) | (simp [*]; done)), (by first | rfl | (simp; done) | (simp [*]; done)), H', ⟨by have hHK9__ := HK9_.out; omega⟩, HM⟩
                · rw [if_neg c15_] at H
                  have c15_b0 : decide (x9_8 < 0) = false := decide_eq_false c15_
                  clear c15_
                  by_cases c20_ : a3 = true
                  · subst c20_
                    have H1 : (if (wrap64 (1 + t171)) > x9_8 then (spec_l9Length.l0 k10_ a1 a2 true (wrap64 (1 + t171)) (wrap64 (x11_8 + 1)) t168 l0) else (spec_l9Length.l0 k10_ a1 a2 true x9_8 (wrap64 (x11_8 + 1)) t168 l0)) = some r := by rw [if_pos rfl] at H; exact H
                    clear H
                    have H := H1
                    clear H1
                    by_cases c21_ : (wrap64 (1 + t171)) > x9_8
                    · rw [if_pos c21_] at H
                      have c21_b0 : decide (x9_8 < (wrap64 (1 + t171))) = true := decide_eq_true c21_
                      clear c21_
                      have H' := Aside0.mk H
                      clear H
                      go_wp2
                      have p169 : 0 ≤ (x11_8 : Int) := of_decide_eq_true (by first | (with_reducible assumption) | assumption)
                      have q169 : (x11_8 : Int) < (t168.length : Int) := of_decide_eq_true (by first | (with_reducible assumption) | assumption)
                      obtain ⟨ad169, e169, hx169⟩ := Kd.at_int (Kd.R_reads' (HM.out.R (h1 := fun _ => rfl) 0 rfl)).2.2 x11_8 p169 q169
                      cases e169
                      have hp169 := Aside0.mk p169
                      have hq169 := Aside0.mk q169
                      replace p169 := eq_true p169
                      replace q169 := eq_true q169
                      have n_ := Aside0.mk (HM.out.step (below_drew1 (Below.refl wr.heap.size wr)))
                      clear HM
                      have HM := n_
                      clear n_
                      refine start_ (n := 12) (S := fun w' => (w'.heap[gb1]? = some (.cells (bcs l0) 44 (0, 0))) ∧ (w'.cell? (ad169.add (x11_8 : Int).toNat) = some (.int .i64 (rd t168 x11_8)))) (ds := []) #[false, false, false, false, false, false, false, false, false, false, false, false] (by kernel_rfl) rfl rfl (⟨(HM.out.box 1 rfl), (by obtain ⟨ad_, e_, h_⟩ := Kd.at_int (Kd.R_reads' (HM.out.R (h1 := fun _ => rfl) 0 rfl)).2.2 x11_8 hp169.out hq169.out; cases e_; exact h_)⟩) (fun hHeld => ?_)
                      generalize wr.drew = w22_ at HM hHeld ⊢
                      refine take_ (i := 0) (N := some 25) (v := ?_) (a' := ?_) #[true, false, false, false, false, false, false, false, false, false, false, false] rfl rfl (by kernel_rfl) (fun _ _ _ h => h) (Or.inl ⟨by rfl, ?_⟩) hHeld ?_ ?_
                      rotate_left
                      · intro w' s0
                        refine load_arr 44 (.tmp 4) ?hoe23_ gb1 ?hxe23_ 44 (bcs l0) (0, 0) _ (s0.1) Try.underlying44 rfl (by rw [bcs_size, HL0.out]; kernel_rfl)
                        (case hoe23_ => rfl)
                        (case hxe23_ => rfl)
                      rotate_left
                      · simp only [Act.put, List.setIfInBounds_toArray, List.set_cons_zero, List.set_cons_succ, i64_w, i32_w]
                        rfl
                      refine pure_ (i := 1) (N := some 26) (v := ?_) (a' := ?_) #[true, true, false, false, false, false, false, false, false, false, false, false] rfl rfl (by kernel_rfl) (fun _ _ _ h => h) (Or.inl ⟨by rfl, ?_⟩) ?_ ?_
                      rotate_left
                      · intro w'
                        go_simp
                        first | with_reducible rfl | (simp [Instr.field, asAgg, Go.part, run_underlying hu22, run_underlying hu44]; rfl) | rfl
                      rotate_left
                      · simp only [Act.put, List.setIfInBounds_toArray, List.set_cons_zero, List.set_cons_succ, i64_w, i32_w]
                        rfl
                      refine pure_ (i := 2) (N := some 27) (v := ?_) (a' := ?_) #[true, true, true, false, false, false, false, false, false, false, false, false] rfl rfl (by kernel_rfl) (fun _ _ _ h => h) (Or.inl ⟨by rfl, ?_⟩) ?_ ?_
                      rotate_left
                      · intro w'
                        go_simp
                        first | with_reducible rfl | (simp [Instr.field, asAgg, Go.part, run_underlying hu22, run_underlying hu44]; rfl) | rfl
                      rotate_left
                      · simp only [Act.put, List.setIfInBounds_toArray, List.set_cons_zero, List.set_cons_succ, i64_w, i32_w]
                        rfl
                      refine pure_ (i := 3) (N := some 28) (v := ?_) (a' := ?_) #[true, true, true, true, false, false, false, false, false, false, false, false] rfl rfl (by kernel_rfl) (fun _ _ _ h => h) (Or.inl ⟨by rfl, ?_⟩) ?_ ?_
                      rotate_left
                      · intro w'
                        go_simp
                        first | with_reducible rfl | (simp [Instr.field, asAgg, Go.part, run_underlying hu22, run_underlying hu44]; rfl) | rfl
                      rotate_left
                      · simp only [Act.put, List.setIfInBounds_toArray, List.set_cons_zero, List.set_cons_succ, i64_w, i32_w]
                        rfl
                      refine pure_ (i := 4) (N := some 29) (v := ?_) (a' := ?_) #[true, true, true, true, true, false, false, false, false, false, false, false] rfl rfl (by kernel_rfl) (fun _ _ _ h => h) (Or.inl ⟨by rfl, ?_⟩) ?_ ?_
                      rotate_left
                      · intro w'
                        go_simp
                        first | with_reducible rfl | (simp [Instr.field, asAgg, Go.part, run_underlying hu22, run_underlying hu44]; rfl) | rfl
                      rotate_left
                      · simp only [Act.put, List.setIfInBounds_toArray, List.set_cons_zero, List.set_cons_succ, i64_w, i32_w]
                        rfl
                      refine pure_ (i := 5) (N := some 30) (v := ?_) (a' := ?_) #[true, true, true, true, true, true, false, false, false, false, false, false] rfl rfl (by kernel_rfl) (fun _ _ _ h => h) (Or.inl ⟨by rfl, ?_⟩) ?_ ?_
                      rotate_left
                      · intro w'
                        go_simp
                        first | with_reducible rfl | (simp [Instr.field, asAgg, Go.part, run_underlying hu22, run_underlying hu44]; rfl) | rfl
                      rotate_left
                      · simp only [Act.put, List.setIfInBounds_toArray, List.set_cons_zero, List.set_cons_succ, i64_w, i32_w]
                        rfl
                      refine take_ (i := 6) (N := some 31) (v := ?_) (a' := ?_) #[true, true, true, true, true, true, true, false, false, false, false, false] rfl rfl (by kernel_rfl) (fun _ _ _ h => h) (Or.inl ⟨by rfl, ?_⟩) hHeld ?_ ?_
                      rotate_left
                      · intro w' s0
                        obtain ⟨s0_, s1_⟩ := s0
                        go_simp
                        first | with_reducible rfl | (simp [Instr.field, asAgg, Go.part, run_underlying hu22, run_underlying hu44]; rfl) | rfl
                      rotate_left
                      · simp only [Act.put, List.setIfInBounds_toArray, List.set_cons_zero, List.set_cons_succ, i64_w, i32_w]
                        rfl
                      refine pure_ (i := 8) (N := some 33) (v := ?_) (a' := ?_) #[true, true, true, true, true, true, true, false, true, false, false, false] rfl rfl (by kernel_rfl) (fun _ _ _ h => h) (Or.inl ⟨by rfl, ?_⟩) ?_ ?_
                      rotate_left
                      · intro w'
                        go_simp
                        first | with_reducible rfl | (simp [Instr.field, asAgg, Go.part, run_underlying hu22, run_underlying hu44]; rfl) | rfl
                      rotate_left
                      · simp only [Act.put, List.setIfInBounds_toArray, List.set_cons_zero, List.set_cons_succ, i64_w, i32_w]
                        rfl
                      refine one_ (i := 7) (N := some 32) #[true, true, true, true, true, true, true, true, true, false, false, false] rfl rfl (by kernel_rfl) (by decide) (fun K hK => ?_)
                      refine goes_ Try.func32 (by kernel_rfl) rfl #[.int .i64 a2, .int .i64 (rd t168 x11_8)] (by rfl) rfl rfl (by (try simp only [List.map_toArray, List.map_cons, List.map_nil]); first | done | rfl | (simp only [List.length_drop, List.length_take]; rfl)) ?_
                      with_reducible refine (spec_l9Out.calls a2 (rd t168 x11_8) t170 _  A13_.out).mono ?_
                      rintro e_ w24_ ⟨rfl, hd_⟩
                      refine ⟨_, rfl, ?_⟩
                      have hb := hd_.below
                      clear hd_
                      have n_ := Aside0.mk (HM.out.step hb)
                      clear HM
                      have HM := n_
                      clear n_
                      clear hb
                      refine hK.out _ _ (⟨(HM.out.box 1 rfl), (by obtain ⟨ad_, e_, h_⟩ := Kd.at_int (Kd.R_reads' (HM.out.R (h1 := fun _ => rfl) 0 rfl)).2.2 x11_8 hp169.out hq169.out; cases e_; exact h_)⟩) (fun hHeld => ?_)
                      clear hK K
                      refine norm_ (a' := ?_) ?_ ?_
                      rotate_left
                      · show Act.put _ (some 32) _ = _
                        simp only [Act.put, List.setIfInBounds_toArray, List.set_cons_zero, List.set_cons_succ, i64_w, i32_w]
                        rfl
                      refine one_ (i := 9) (N := some 34) #[true, true, true, true, true, true, true, true, true, true, false, false] rfl rfl (by kernel_rfl) (by decide) (fun K hK => ?_)
                      refine goes_ Try.func41 (by kernel_rfl) rfl #[.agg (bcs l0), .int .i64 a1, .int .i64 t170, .bool true] (by rfl) rfl rfl (by (try simp only [List.map_toArray, List.map_cons, List.map_nil]); first | done | rfl | (simp only [List.length_drop, List.length_take]; rfl)) ?_
                      with_reducible refine ((ih k10_ (by have hHK9__ := HK9_.out; omega)) l0 a1 t170 true t171 _ ?sd0 A14_.out).mono ?_
                      (case sd0 => exact HL0.out)
                      rintro e_ w25_ ⟨rfl, hb⟩
                      refine ⟨_, rfl, ?_⟩
                      have n_ := Aside0.mk (HM.out.step hb)
                      clear HM
                      have HM := n_
                      clear n_
                      clear hb
                      refine hK.out _ _ (⟨(HM.out.box 1 rfl), (by obtain ⟨ad_, e_, h_⟩ := Kd.at_int (Kd.R_reads' (HM.out.R (h1 := fun _ => rfl) 0 rfl)).2.2 x11_8 hp169.out hq169.out; cases e_; exact h_)⟩) (fun hHeld => ?_)
                      clear hK K
                      refine norm_ (a' := ?_) ?_ ?_
                      rotate_left
                      · show Act.put _ (some 34) _ = _
                        simp only [Act.put, List.setIfInBounds_toArray, List.set_cons_zero, List.set_cons_succ, i64_w, i32_w]
                        rfl
                      refine pure_ (i := 10) (N := some 35) (v := ?_) (a' := ?_) #[true, true, true, true, true, true, true, true, true, true, true, false] rfl rfl (by kernel_rfl) (fun _ _ _ h => h) (Or.inl ⟨by rfl, ?_⟩) ?_ ?_
                      rotate_left
                      · intro w'
                        go_simp
                        first | with_reducible rfl | (simp [Instr.field, asAgg, Go.part, run_underlying hu22, run_underlying hu44]; rfl) | rfl
                      rotate_left
                      · simp only [Act.put, List.setIfInBounds_toArray, List.set_cons_zero, List.set_cons_succ, i64_w, i32_w]
                        rfl
                      refine pure_ (i := 11) (N := some 12) (v := ?_) (a' := ?_) #[true, true, true, true, true, true, true, true, true, true, true, true] rfl rfl (by kernel_rfl) (fun _ _ _ h => h) (Or.inl ⟨by rfl, ?_⟩) ?_ ?_
                      rotate_left
                      · intro w'
                        go_simp
                        first | with_reducible rfl | (simp [Instr.field, asAgg, Go.part, run_underlying hu22, run_underlying hu44]; rfl) | rfl
                      rotate_left
                      · simp only [Act.put, List.setIfInBounds_toArray, List.set_cons_zero, List.set_cons_succ, i64_w, i32_w]
                        rfl
                      refine done_ (by kernel_rfl) ?_
                      go_wp2
                      go_roundg k10_
                      case measure => have hHK9__ := HK9_.out; omega
                      case rel => exact ⟨(wrap64 (1 + t171)), (wrap64 (x11_8 + 1)), (by first | rfl | (simp; done) | (simp [*]; done)), (by first | rfl | (simp; done) | (simp [*]; done)), H', ⟨by have hHK9__ := HK9_.out; omega⟩, HM⟩
                    · rw [if_neg c21_] at H
                      have c21_b0 : decide (x9_8 < (wrap64 (1 + t171))) = false := decide_eq_false c21_
                      clear c21_
                      have H' := Aside0.mk H
                      clear H
                      go_wp2
                      have p169 : 0 ≤ (x11_8 : Int) := of_decide_eq_true (by first | (with_reducible assumption) | assumption)
                      have q169 : (x11_8 : Int) < (t168.length : Int) := of_decide_eq_true (by first | (with_reducible assumption) | assumption)
                      obtain ⟨ad169, e169, hx169⟩ := Kd.at_int (Kd.R_reads' (HM.out.R (h1 := fun _ => rfl) 0 rfl)).2.2 x11_8 p169 q169
                      cases e169
                      have hp169 := Aside0.mk p169
                      have hq169 := Aside0.mk q169
                      replace p169 := eq_true p169
                      replace q169 := eq_true q169
                      have n_ := Aside0.mk (HM.out.step (below_drew1 (Below.refl wr.heap.size wr)))
                      clear HM
                      have HM := n_
                      clear n_
                      refine start_ (n := 12) (S := fun w' => (w'.heap[gb1]? = some (.cells (bcs l0) 44 (0, 0))) ∧ (w'.cell? (ad169.add (x11_8 : Int).toNat) = some (.int .i64 (rd t168 x11_8)))) (ds := []) #[false, false, false, false, false, false, false, false, false, false, false, false] (by kernel_rfl) rfl rfl (⟨(HM.out.box 1 rfl), (by obtain ⟨ad_, e_, h_⟩ := Kd.at_int (Kd.R_reads' (HM.out.R (h1 := fun _ => rfl) 0 rfl)).2.2 x11_8 hp169.out hq169.out; cases e_; exact h_)⟩) (fun hHeld => ?_)
                      generalize wr.drew = w26_ at HM hHeld ⊢
                      refine take_ (i := 0) (N := some 25) (v := ?_) (a' := ?_) #[true, false, false, false, false, false, false, false, false, false, false, false] rfl rfl (by kernel_rfl) (fun _ _ _ h => h) (Or.inl ⟨by rfl, ?_⟩) hHeld ?_ ?_
                      rotate_left
                      · intro w' s0
                        refine load_arr 44 (.tmp 4) ?hoe27_ gb1 ?hxe27_ 44 (bcs l0) (0, 0) _ (s0.1) Try.underlying44 rfl (by rw [bcs_size, HL0.out]; kernel_rfl)
                        (case hoe27_ => rfl)
                        (case hxe27_ => rfl)
                      rotate_left
                      · simp only [Act.put, List.setIfInBounds_toArray, List.set_cons_zero, List.set_cons_succ, i64_w, i32_w]
                        rfl
                      refine pure_ (i := 1) (N := some 26) (v := ?_) (a' := ?_) #[true, true, false, false, false, false, false, false, false, false, false, false] rfl rfl (by kernel_rfl) (fun _ _ _ h => h) (Or.inl ⟨by rfl, ?_⟩) ?_ ?_
                      rotate_left
                      · intro w'
                        go_simp
                        first | with_reducible rfl | (simp [Instr.field, asAgg, Go.part, run_underlying hu22, run_underlying hu44]; rfl) | rfl
                      rotate_left
                      · simp only [Act.put, List.setIfInBounds_toArray, List.set_cons_zero, List.set_cons_succ, i64_w, i32_w]
                        rfl
                      refine pure_ (i := 2) (N := some 27) (v := ?_) (a' := ?_) #[true, true, true, false, false, false, false, false, false, false, false, false] rfl rfl (by kernel_rfl) (fun _ _ _ h => h) (Or.inl ⟨by rfl, ?_⟩) ?_ ?_
                      rotate_left
                      · intro w'
                        go_simp
                        first | with_reducible rfl | (simp [Instr.field, asAgg, Go.part, run_underlying hu22, run_underlying hu44]; rfl) | rfl
                      rotate_left
                      · simp only [Act.put, List.setIfInBounds_toArray, List.set_cons_zero, List.set_cons_succ, i64_w, i32_w]
                        rfl
                      refine pure_ (i := 3) (N := some 28) (v := ?_) (a' := ?_) #[true, true, true, true, false, false, false, false, false, false, false, false] rfl rfl (by kernel_rfl) (fun _ _ _ h => h) (Or.inl ⟨by rfl, ?_⟩) ?_ ?_
                      rotate_left
                      · intro w'
                        go_simp
                        first | with_reducible rfl | (simp [Instr.field, asAgg, Go.part, run_underlying hu22, run_underlying hu44]; rfl) | rfl
                      rotate_left
                      · simp only [Act.put, List.setIfInBounds_toArray, List.set_cons_zero, List.set_cons_succ, i64_w, i32_w]
                        rfl
                      refine pure_ (i := 4) (N := some 29) (v := ?_) (a' := ?_) #[true, true, true, true, true, false, false, false, false, false, false, false] rfl rfl (by kernel_rfl) (fun _ _ _ h => h) (Or.inl ⟨by rfl, ?_⟩) ?_ ?_
                      rotate_left
                      · intro w'
                        go_simp
                        first | with_reducible rfl | (simp [Instr.field, asAgg, Go.part, run_underlying hu22, run_underlying hu44]; rfl) | rfl
                      rotate_left
                      · simp only [Act.put, List.setIfInBounds_toArray, List.set_cons_zero, List.set_cons_succ, i64_w, i32_w]
                        rfl
                      refine pure_ (i := 5) (N := some 30) (v := ?_) (a' := ?_) #[true, true, true, true, true, true, false, false, false, false, false, false] rfl rfl (by kernel_rfl) (fun _ _ _ h => h) (Or.inl ⟨by rfl, ?_⟩) ?_ ?_
                      rotate_left
                      · intro w'
                        go_simp
                        first | with_reducible rfl | (simp [Instr.field, asAgg, Go.part, run_underlying hu22, run_underlying hu44]; rfl) | rfl
                      rotate_left
                      · simp only [Act.put, List.setIfInBounds_toArray, List.set_cons_zero, List.set_cons_succ, i64_w, i32_w]
                        rfl
                      refine take_ (i := 6) (N := some 31) (v := ?_) (a' := ?_) #[true, true, true, true, true, true, true, false, false, false, false, false] rfl rfl (by kernel_rfl) (fun _ _ _ h => h) (Or.inl ⟨by rfl, ?_⟩) hHeld ?_ ?_
                      rotate_left
                      · intro w' s0
                        obtain ⟨s0_, s1_⟩ := s0
                        go_simp
                        first | with_reducible rfl | (simp [Instr.field, asAgg, Go.part, run_underlying hu22, run_underlying hu44]; rfl) | rfl
                      rotate_left
                      · simp only [Act.put, List.setIfInBounds_toArray, List.set_cons_zero, List.set_cons_succ, i64_w, i32_w]
                        rfl
                      refine pure_ (i := 8) (N := some 33) (v := ?_) (a' := ?_) #[true, true, true, true, true, true, true, false, true, false, false, false] rfl rfl (by kernel_rfl) (fun _ _ _ h => h) (Or.inl ⟨by rfl, ?_⟩) ?_ ?_
                      rotate_left
                      · intro w'
                        go_simp
                        first | with_reducible rfl | (simp [Instr.field, asAgg, Go.part, run_underlying hu22, run_underlying hu44]; rfl) | rfl
                      rotate_left
                      · simp only [Act.put, List.setIfInBounds_toArray, List.set_cons_zero, List.set_cons_succ, i64_w, i32_w]
                        rfl
                      refine one_ (i := 7) (N := some 32) #[true, true, true, true, true, true, true, true, true, false, false, false] rfl rfl (by kernel_rfl) (by decide) (fun K hK => ?_)
                      refine goes_ Try.func32 (by kernel_rfl) rfl #[.int .i64 a2, .int .i64 (rd t168 x11_8)] (by rfl) rfl rfl (by (try simp only [List.map_toArray, List.map_cons, List.map_nil]); first | done | rfl | (simp only [List.length_drop, List.length_take]; rfl)) ?_
                      with_reducible refine (spec_l9Out.calls a2 (rd t168 x11_8) t170 _  A13_.out).mono ?_
                      rintro e_ w28_ ⟨rfl, hd_⟩
                      refine ⟨_, rfl, ?_⟩
                      have hb := hd_.below
                      clear hd_
                      have n_ := Aside0.mk (HM.out.step hb)
                      clear HM
                      have HM := n_
                      clear n_
                      clear hb
                      refine hK.out _ _ (⟨(HM.out.box 1 rfl), (by obtain ⟨ad_, e_, h_⟩ := Kd.at_int (Kd.R_reads' (HM.out.R (h1 := fun _ => rfl) 0 rfl)).2.2 x11_8 hp169.out hq169.out; cases e_; exact h_)⟩) (fun hHeld => ?_)
                      clear hK K
                      refine norm_ (a' := ?_) ?_ ?_
                      rotate_left
                      · show Act.put _ (some 32) _ = _
                        simp only [Act.put, List.setIfInBounds_toArray, List.set_cons_zero, List.set_cons_succ, i64_w, i32_w]
                        rfl
                      refine one_ (i := 9) (N := some 34) #[true, true, true, true, true, true, true, true, true, true, false, false] rfl rfl (by kernel_rfl) (by decide) (fun K hK => ?_)
                      refine goes_ Try.func41 (by kernel_rfl) rfl #[.agg (bcs l0), .int .i64 a1, .int .i64 t170, .bool true] (by rfl) rfl rfl (by (try simp only [List.map_toArray, List.map_cons, List.map_nil]); first | done | rfl | (simp only [List.length_drop, List.length_take]; rfl)) ?_
                      with_reducible refine ((ih k10_ (by have hHK9__ := HK9_.out; omega)) l0 a1 t170 true t171 _ ?sd0 A14_.out).mono ?_
                      (case sd0 => exact HL0.out)
                      rintro e_ w29_ ⟨rfl, hb⟩
                      refine ⟨_, rfl, ?_⟩
                      have n_ := Aside0.mk (HM.out.step hb)
                      clear HM
                      have HM := n_
                      clear n_
                      clear hb
                      refine hK.out _ _ (⟨(HM.out.box 1 rfl), (by obtain ⟨ad_, e_, h_⟩ := Kd.at_int (Kd.R_reads' (HM.out.R (h1 := fun _ => rfl) 0 rfl)).2.2 x11_8 hp169.out hq169.out; cases e_; exact h_)⟩) (fun hHeld => ?_)
                      clear hK K
                      refine norm_ (a' := ?_) ?_ ?_
                      rotate_left
                      · show Act.put _ (some 34) _ = _
                        simp only [Act.put, List.setIfInBounds_toArray, List.set_cons_zero, List.set_cons_succ, i64_w, i32_w]
                        rfl
                      refine pure_ (i := 10) (N := some 35) (v := ?_) (a' := ?_) #[true, true, true, true, true, true, true, true, true, true, true, false] rfl rfl (by kernel_rfl) (fun _ _ _ h => h) (Or.inl ⟨by rfl, ?_⟩) ?_ ?_
                      rotate_left
                      · intro w'
                        go_simp
                        first | with_reducible rfl | (simp [Instr.field, asAgg, Go.part, run_underlying hu22, run_underlying hu44]; rfl) | rfl
                      rotate_left
                      · simp only [Act.put, List.setIfInBounds_toArray, List.set_cons_zero, List.set_cons_succ, i64_w, i32_w]
                        rfl
                      refine pure_ (i := 11) (N := some 12) (v := ?_) (a' := ?_) #[true, true, true, true, true, true, true, true, true, true, true, true] rfl rfl (by kernel_rfl) (fun _ _ _ h => h) (Or.inl ⟨by rfl, ?_⟩) ?_ ?_
                      rotate_left
                      · intro w'
                        go_simp
                        first | with_reducible rfl | (simp [Instr.field, asAgg, Go.part, run_underlying hu22, run_underlying hu44]; rfl) | rfl
                      rotate_left
                      · simp only [Act.put, List.setIfInBounds_toArray, List.set_cons_zero, List.set_cons_succ, i64_w, i32_w]
                        rfl
                      refine done_ (by kernel_rfl) ?_
                      go_wp2
                      go_roundg k10_
                      case measure => have hHK9__ := HK9_.out; omega
                      case rel => exact ⟨(x9_8), (wrap64 (x11_8 + 1)), (by first | rfl | (simp; done) | (simp [*]; done)), (by first | rfl | (simp; done) | (simp [*]; done)), H', ⟨by have hHK9__ := HK9_.out; omega⟩, HM⟩
                  · replace c20_ := Bool.eq_false_iff.mpr c20_
                    subst c20_
                    have H1 : (if (wrap64 (1 + t171)) < x9_8 then (spec_l9Length.l0 k10_ a1 a2 false (wrap64 (1 + t171)) (wrap64 (x11_8 + 1)) t168 l0) else (spec_l9Length.l0 k10_ a1 a2 false x9_8 (wrap64 (x11_8 + 1)) t168 l0)) = some r := by rw [if_neg (show ¬ (false = true) by decide)] at H; exact H
                    clear H
                    have H := H1
                    clear H1
                    by_cases c30_ : (wrap64 (1 + t171)) < x9_8
                    · rw [if_pos c30_] at H
                      have c30_b0 : decide ((wrap64 (1 + t171)) < x9_8) = true := decide_eq_true c30_
                      clear c30_
                      have H' := Aside0.mk H
                      clear H
                      go_wp2
                      have p169 : 0 ≤ (x11_8 : Int) := of_decide_eq_true (by first | (with_reducible assumption) | assumption)
                      have q169 : (x11_8 : Int) < (t168.length : Int) := of_decide_eq_true (by first | (with_reducible assumption) | assumption)
                      obtain ⟨ad169, e169, hx169⟩ := Kd.at_int (Kd.R_reads' (HM.out.R (h1 := fun _ => rfl) 0 rfl)).2.2 x11_8 p169 q169
                      cases e169
                      have hp169 := Aside0.mk p169
                      have hq169 := Aside0.mk q169
                      replace p169 := eq_true p169
                      replace q169 := eq_true q169
                      have n_ := Aside0.mk (HM.out.step (below_drew1 (Below.refl wr.heap.size wr)))
                      clear HM
                      have HM := n_
                      clear n_
                      refine start_ (n := 12) (S := fun w' => (w'.heap[gb1]? = some (.cells (bcs l0) 44 (0, 0))) ∧ (w'.cell? (ad169.add (x11_8 : Int).toNat) = some (.int .i64 (rd t168 x11_8)))) (ds := []) #[false, false, false, false, false, false, false, false, false, false, false, false] (by kernel_rfl) rfl rfl (⟨(HM.out.box 1 rfl), (by obtain ⟨ad_, e_, h_⟩ := Kd.at_int (Kd.R_reads' (HM.out.R (h1 := fun _ => rfl) 0 rfl)).2.2 x11_8 hp169.out hq169.out; cases e_; exact h_)⟩) (fun hHeld => ?_)
                      generalize wr.drew = w31_ at HM hHeld ⊢
                      refine take_ (i := 0) (N := some 25) (v := ?_) (a' := ?_) #[true, false, false, false, false, false, false, false, false, false, false, false] rfl rfl (by kernel_rfl) (fun _ _ _ h => h) (Or.inl ⟨by rfl, ?_⟩) hHeld ?_ ?_
                      rotate_left
                      · intro w' s0
                        refine load_arr 44 (.tmp 4) ?hoe32_ gb1 ?hxe32_ 44 (bcs l0) (0, 0) _ (s0.1) Try.underlying44 rfl (by rw [bcs_size, HL0.out]; kernel_rfl)
                        (case hoe32_ => rfl)
                        (case hxe32_ => rfl)
                      rotate_left
                      · simp only [Act.put, List.setIfInBounds_toArray, List.set_cons_zero, List.set_cons_succ, i64_w, i32_w]
                        rfl
                      refine pure_ (i := 1) (N := some 26) (v := ?_) (a' := ?_) #[true, true, false, false, false, false, false, false, false, false, false, false] rfl rfl (by kernel_rfl) (fun _ _ _ h => h) (Or.inl ⟨by rfl, ?_⟩) ?_ ?_
                      rotate_left
                      · intro w'
                        go_simp
                        first | with_reducible rfl | (simp [Instr.field, asAgg, Go.part, run_underlying hu22, run_underlying hu44]; rfl) | rfl
                      rotate_left
                      · simp only [Act.put, List.setIfInBounds_toArray, List.set_cons_zero, List.set_cons_succ, i64_w, i32_w]
                        rfl
                      refine pure_ (i := 2) (N := some 27) (v := ?_) (a' := ?_) #[true, true, true, false, false, false, false, false, false, false, false, false] rfl rfl (by kernel_rfl) (fun _ _ _ h => h) (Or.inl ⟨by rfl, ?_⟩) ?_ ?_
                      rotate_left
                      · intro w'
                        go_simp
                        first | with_reducible rfl | (simp [Instr.field, asAgg, Go.part, run_underlying hu22, run_underlying hu44]; rfl) | rfl
                      rotate_left
                      · simp only [Act.put, List.setIfInBounds_toArray, List.set_cons_zero, List.set_cons_succ, i64_w, i32_w]
                        rfl
                      refine pure_ (i := 3) (N := some 28) (v := ?_) (a' := ?_) #[true, true, true, true, false, false, false, false, false, false, false, false] rfl rfl (by kernel_rfl) (fun _ _ _ h => h) (Or.inl ⟨by rfl, ?_⟩) ?_ ?_
                      rotate_left
                      · intro w'
                        go_simp
                        first | with_reducible rfl | (simp [Instr.field, asAgg, Go.part, run_underlying hu22, run_underlying hu44]; rfl) | rfl
                      rotate_left
                      · simp only [Act.put, List.setIfInBounds_toArray, List.set_cons_zero, List.set_cons_succ, i64_w, i32_w]
                        rfl
                      refine pure_ (i := 4) (N := some 29) (v := ?_) (a' := ?_) #[true, true, true, true, true, false, false, false, false, false, false, false] rfl rfl (by kernel_rfl) (fun _ _ _ h => h) (Or.inl ⟨by rfl, ?_⟩) ?_ ?_
                      rotate_left
                      · intro w'
                        go_simp
                        first | with_reducible rfl | (simp [Instr.field, asAgg, Go.part, run_underlying hu22, run_underlying hu44]; rfl) | rfl
                      rotate_left
                      · simp only [Act.put, List.setIfInBounds_toArray, List.set_cons_zero, List.set_cons_succ, i64_w, i32_w]
                        rfl
                      refine pure_ (i := 5) (N := some 30) (v := ?_) (a' := ?_) #[true, true, true, true, true, true, false, false, false, false, false, false] rfl rfl (by kernel_rfl) (fun _ _ _ h => h) (Or.inl ⟨by rfl, ?_⟩) ?_ ?_
                      rotate_left
                      · intro w'
                        go_simp
                        first | with_reducible rfl | (simp [Instr.field, asAgg, Go.part, run_underlying hu22, run_underlying hu44]; rfl) | rfl
                      rotate_left
                      · simp only [Act.put, List.setIfInBounds_toArray, List.set_cons_zero, List.set_cons_succ, i64_w, i32_w]
                        rfl
                      refine take_ (i := 6) (N := some 31) (v := ?_) (a' := ?_) #[true, true, true, true, true, true, true, false, false, false, false, false] rfl rfl (by kernel_rfl) (fun _ _ _ h => h) (Or.inl ⟨by rfl, ?_⟩) hHeld ?_ ?_
                      rotate_left
                      · intro w' s0
                        obtain ⟨s0_, s1_⟩ := s0
                        go_simp
                        first | with_reducible rfl | (simp [Instr.field, asAgg, Go.part, run_underlying hu22, run_underlying hu44]; rfl) | rfl
                      rotate_left
                      · simp only [Act.put, List.setIfInBounds_toArray, List.set_cons_zero, List.set_cons_succ, i64_w, i32_w]
                        rfl
                      refine pure_ (i := 8) (N := some 33) (v := ?_) (a' := ?_) #[true, true, true, true, true, true, true, false, true, false, false, false] rfl rfl (by kernel_rfl) (fun _ _ _ h => h) (Or.inl ⟨by rfl, ?_⟩) ?_ ?_
                      rotate_left
                      · intro w'
                        go_simp
                        first | with_reducible rfl | (simp [Instr.field, asAgg, Go.part, run_underlying hu22, run_underlying hu44]; rfl) | rfl
                      rotate_left
                      · simp only [Act.put, List.setIfInBounds_toArray, List.set_cons_zero, List.set_cons_succ, i64_w, i32_w]
                        rfl
                      refine one_ (i := 7) (N := some 32) #[true, true, true, true, true, true, true, true, true, false, false, false] rfl rfl (by kernel_rfl) (by decide) (fun K hK => ?_)
                      refine goes_ Try.func32 (by kernel_rfl) rfl #[.int .i64 a2, .int .i64 (rd t168 x11_8)] (by rfl) rfl rfl (by (try simp only [List.map_toArray, List.map_cons, List.map_nil]); first | done | rfl | (simp only [List.length_drop, List.length_take]; rfl)) ?_
                      with_reducible refine (spec_l9Out.calls a2 (rd t168 x11_8) t170 _  A13_.out).mono ?_
                      rintro e_ w33_ ⟨rfl, hd_⟩
                      refine ⟨_, rfl, ?_⟩
                      have hb := hd_.below
                      clear hd_
                      have n_ := Aside0.mk (HM.out.step hb)
                      clear HM
                      have HM := n_
                      clear n_
                      clear hb
                      refine hK.out _ _ (⟨(HM.out.box 1 rfl), (by obtain ⟨ad_, e_, h_⟩ := Kd.at_int (Kd.R_reads' (HM.out.R (h1 := fun _ => rfl) 0 rfl)).2.2 x11_8 hp169.out hq169.out; cases e_; exact h_)⟩) (fun hHeld => ?_)
                      clear hK K
                      refine norm_ (a' := ?_) ?_ ?_
                      rotate_left
                      · show Act.put _ (some 32) _ = _
                        simp only [Act.put, List.setIfInBounds_toArray, List.set_cons_zero, List.set_cons_succ, i64_w, i32_w]
                        rfl
                      refine one_ (i := 9) (N := some 34) #[true, true, true, true, true, true, true, true, true, true, false, false] rfl rfl (by kernel_rfl) (by decide) (fun K hK => ?_)
                      refine goes_ Try.func41 (by kernel_rfl) rfl #[.agg (bcs l0), .int .i64 a1, .int .i64 t170, .bool false] (by rfl) rfl rfl (by (try simp only [List.map_toArray, List.map_cons, List.map_nil]); first | done | rfl | (simp only [List.length_drop, List.length_take]; rfl)) ?_
                      with_reducible refine ((ih k10_ (by have hHK9__ := HK9_.out; omega)) l0 a1 t170 false t171 _ ?sd0 A14_.out).mono ?_
                      (case sd0 => exact HL0.out)
                      rintro e_ w34_ ⟨rfl, hb⟩
                      refine ⟨_, rfl, ?_⟩
                      have n_ := Aside0.mk (HM.out.step hb)
                      clear HM
                      have HM := n_
                      clear n_
                      clear hb
                      refine hK.out _ _ (⟨(HM.out.box 1 rfl), (by obtain ⟨ad_, e_, h_⟩ := Kd.at_int (Kd.R_reads' (HM.out.R (h1 := fun _ => rfl) 0 rfl)).2.2 x11_8 hp169.out hq169.out; cases e_; exact h_)⟩) (fun hHeld => ?_)
                      clear hK K
                      refine norm_ (a' := ?_) ?_ ?_
                      rotate_left
                      · show Act.put _ (some 34) _ = _
                        simp only [Act.put, List.setIfInBounds_toArray, List.set_cons_zero, List.set_cons_succ, i64_w, i32_w]
                        rfl
                      refine pure_ (i := 10) (N := some 35) (v := ?_) (a' := ?_) #[true, true, true, true, true, true, true, true, true, true, true, false] rfl rfl (by kernel_rfl) (fun _ _ _ h => h) (Or.inl ⟨by rfl, ?_⟩) ?_ ?_
                      rotate_left
                      · intro w'
                        go_simp
                        first | with_reducible rfl | (simp [Instr.field, asAgg, Go.part, run_underlying hu22, run_underlying hu44]; rfl) | rfl
                      rotate_left
                      · simp only [Act.put, List.setIfInBounds_toArray, List.set_cons_zero, List.set_cons_succ, i64_w, i32_w]
                        rfl
                      refine pure_ (i := 11) (N := some 12) (v := ?_) (a' := ?_) #[true, true, true, true, true, true, true, true, true, true, true, true] rfl rfl (by kernel_rfl) (fun _ _ _ h => h) (Or.inl ⟨by rfl, ?_⟩) ?_ ?_
                      rotate_left
                      · intro w'
                        go_simp
                        first | with_reducible rfl | (simp [Instr.field, asAgg, Go.part, run_underlying hu22, run_underlying hu44]; rfl) | rfl
                      rotate_left
                      · simp only [Act.put, List.setIfInBounds_toArray, List.set_cons_zero, List.set_cons_succ, i64_w, i32_w]
                        rfl
                      refine done_ (by kernel_rfl) ?_
                      go_wp2
                      go_roundg k10_
                      case measure => have hHK9__ := HK9_.out; omega
                      case rel => exact ⟨(wrap64 (1 + t171)), (wrap64 (x11_8 + 1)), (by first | rfl | (simp; done) | (simp [*]; done)), (by first | rfl | (simp; done) | (simp [*]; done)), H', ⟨by have hHK9__ := HK9_.out; omega⟩, HM⟩
                    · rw [if_neg c30_] at H
                      have c30_b0 : decide ((wrap64 (1 + t171)) < x9_8) = false := decide_eq_false c30_
                      clear c30_
                      have H' := Aside0.mk H
                      clear H
                      go_wp2
                      have p169 : 0 ≤ (x11_8 : Int) := of_decide_eq_true (by first | (with_reducible assumption) | assumption)
                      have q169 : (x11_8 : Int) < (t168.length : Int) := of_decide_eq_true (by first | (with_reducible assumption) | assumption)
                      obtain ⟨ad169, e169, hx169⟩ := Kd.at_int (Kd.R_reads' (HM.out.R (h1 := fun _ => rfl) 0 rfl)).2.2 x11_8 p169 q169
                      cases e169
                      have hp169 := Aside0.mk p169
                      have hq169 := Aside0.mk q169
                      replace p169 := eq_true p169
                      replace q169 := eq_true q169
                      have n_ := Aside0.mk (HM.out.step (below_drew1 (Below.refl wr.heap.size wr)))
                      clear HM
                      have HM := n_
                      clear n_
                      refine start_ (n := 12) (S := fun w' => (w'.heap[gb1]? = some (.cells (bcs l0) 44 (0, 0))) ∧ (w'.cell? (ad169.add (x11_8 : Int).toNat) = some (.int .i64 (rd t168 x11_8)))) (ds := []) #[false, false, false, false, false, false, false, false, false, false, false, false] (by kernel_rfl) rfl rfl (⟨(HM.out.box 1 rfl), (by obtain ⟨ad_, e_, h_⟩ := Kd.at_int (Kd.R_reads' (HM.out.R (h1 := fun _ => rfl) 0 rfl)).2.2 x11_8 hp169.out hq169.out; cases e_; exact h_)⟩) (fun hHeld => ?_)
                      generalize wr.drew = w35_ at HM hHeld ⊢
                      refine take_ (i := 0) (N := some 25) (v := ?_) (a' := ?_) #[true, false, false, false, false, false, false, false, false, false, false, false] rfl rfl (by kernel_rfl) (fun _ _ _ h => h) (Or.inl ⟨by rfl, ?_⟩) hHeld ?_ ?_
                      rotate_left
                      · intro w' s0
                        refine load_arr 44 (.tmp 4) ?hoe36_ gb1 ?hxe36_ 44 (bcs l0) (0, 0) _ (s0.1) Try.underlying44 rfl (by rw [bcs_size, HL0.out]; kernel_rfl)
                        (case hoe36_ => rfl)
                        (case hxe36_ => rfl)
                      rotate_left
                      · simp only [Act.put, List.setIfInBounds_toArray, List.set_cons_zero, List.set_cons_succ, i64_w, i32_w]
                        rfl
                      refine pure_ (i := 1) (N := some 26) (v := ?_) (a' := ?_) #[true, true, false, false, false, false, false, false, false, false, false, false] rfl rfl (by kernel_rfl) (fun _ _ _ h => h) (Or.inl ⟨by rfl, ?_⟩) ?_ ?_
                      rotate_left
                      · intro w'
                        go_simp
                        first | with_reducible rfl | (simp [Instr.field, asAgg, Go.part, run_underlying hu22, run_underlying hu44]; rfl) | rfl
                      rotate_left
                      · simp only [Act.put, List.setIfInBounds_toArray, List.set_cons_zero, List.set_cons_succ, i64_w, i32_w]
                        rfl
                      refine pure_ (i := 2) (N := some 27) (v := ?_) (a' := ?_) #[true, true, true, false, false, false, false, false, false, false, false, false] rfl rfl (by kernel_rfl) (fun _ _ _ h => h) (Or.inl ⟨by rfl, ?_⟩) ?_ ?_
                      rotate_left
                      · intro w'
                        go_simp
                        first | with_reducible rfl | (simp [Instr.field, asAgg, Go.part, run_underlying hu22, run_underlying hu44]; rfl) | rfl
                      rotate_left
                      · simp only [Act.put, List.setIfInBounds_toArray, List.set_cons_zero, List.set_cons_succ, i64_w, i32_w]
                        rfl
                      refine pure_ (i := 3) (N := some 28) (v := ?_) (a' := ?_) #[true, true, true, true, false, false, false, false, false, false, false, false] rfl rfl (by kernel_rfl) (fun _ _ _ h => h) (Or.inl ⟨by rfl, ?_⟩) ?_ ?_
                      rotate_left
                      · intro w'
                        go_simp
                        first | with_reducible rfl | (simp [Instr.field, asAgg, Go.part, run_underlying hu22, run_underlying hu44]; rfl) | rfl
                      rotate_left
                      · simp only [Act.put, List.setIfInBounds_toArray, List.set_cons_zero, List.set_cons_succ, i64_w, i32_w]
                        rfl
                      refine pure_ (i := 4) (N := some 29) (v := ?_) (a' := ?_) #[true, true, true, true, true, false, false, false, false, false, false, false] rfl rfl (by kernel_rfl) (fun _ _ _ h => h) (Or.inl ⟨by rfl, ?_⟩) ?_ ?_
                      rotate_left
                      · intro w'
                        go_simp
                        first | with_reducible rfl | (simp [Instr.field, asAgg, Go.part, run_underlying hu22, run_underlying hu44]; rfl) | rfl
                      rotate_left
                      · simp only [Act.put, List.setIfInBounds_toArray, List.set_cons_zero, List.set_cons_succ, i64_w, i32_w]
                        rfl
                      refine pure_ (i := 5) (N := some 30) (v := ?_) (a' := ?_) #[true, true, true, true, true, true, false, false, false, false, false, false] rfl rfl (by kernel_rfl) (fun _ _ _ h => h) (Or.inl ⟨by rfl, ?_⟩) ?_ ?_
                      rotate_left
                      · intro w'
                        go_simp
                        first | with_reducible rfl | (simp [Instr.field, asAgg, Go.part, run_underlying hu22, run_underlying hu44]; rfl) | rfl
                      rotate_left
                      · simp only [Act.put, List.setIfInBounds_toArray, List.set_cons_zero, List.set_cons_succ, i64_w, i32_w]
                        rfl
                      refine take_ (i := 6) (N := some 31) (v := ?_) (a' := ?_) #[true, true, true, true, true, true, true, false, false, false, false, false] rfl rfl (by kernel_rfl) (fun _ _ _ h => h) (Or.inl ⟨by rfl, ?_⟩) hHeld ?_ ?_
                      rotate_left
                      · intro w' s0
                        obtain ⟨s0_, s1_⟩ := s0
                        go_simp
                        first | with_reducible rfl | (simp [Instr.field, asAgg, Go.part, run_underlying hu22, run_underlying hu44]; rfl) | rfl
                      rotate_left
                      · simp only [Act.put, List.setIfInBounds_toArray, List.set_cons_zero, List.set_cons_succ, i64_w, i32_w]
                        rfl
                      refine pure_ (i := 8) (N := some 33) (v := ?_) (a' := ?_) #[true, true, true, true, true, true, true, false, true, false, false, false] rfl rfl (by kernel_rfl) (fun _ _ _ h => h) (Or.inl ⟨by rfl, ?_⟩) ?_ ?_
                      rotate_left
                      · intro w'
                        go_simp
                        first | with_reducible rfl | (simp [Instr.field, asAgg, Go.part, run_underlying hu22, run_underlying hu44]; rfl) | rfl
                      rotate_left
                      · simp only [Act.put, List.setIfInBounds_toArray, List.set_cons_zero, List.set_cons_succ, i64_w, i32_w]
                        rfl
                      refine one_ (i := 7) (N := some 32) #[true, true, true, true, true, true, true, true, true, false, false, false] rfl rfl (by kernel_rfl) (by decide) (fun K hK => ?_)
                      refine goes_ Try.func32 (by kernel_rfl) rfl #[.int .i64 a2, .int .i64 (rd t168 x11_8)] (by rfl) rfl rfl (by (try simp only [List.map_toArray, List.map_cons, List.map_nil]); first | done | rfl | (simp only [List.length_drop, List.length_take]; rfl)) ?_
                      with_reducible refine (spec_l9Out.calls a2 (rd t168 x11_8) t170 _  A13_.out).mono ?_
                      rintro e_ w37_ ⟨rfl, hd_⟩
                      refine ⟨_, rfl, ?_⟩
                      have hb := hd_.below
                      clear hd_
                      have n_ := Aside0.mk (HM.out.step hb)
                      clear HM
                      have HM := n_
                      clear n_
                      clear hb
                      refine hK.out _ _ (⟨(HM.out.box 1 rfl), (by obtain ⟨ad_, e_, h_⟩ := Kd.at_int (Kd.R_reads' (HM.out.R (h1 := fun _ => rfl) 0 rfl)).2.2 x11_8 hp169.out hq169.out; cases e_; exact h_)⟩) (fun hHeld => ?_)
                      clear hK K
                      refine norm_ (a' := ?_) ?_ ?_
                      rotate_left
                      · show Act.put _ (some 32) _ = _
                        simp only [Act.put, List.setIfInBounds_toArray, List.set_cons_zero, List.set_cons_succ, i64_w, i32_w]
                        rfl
                      refine one_ (i := 9) (N := some 34) #[true, true, true, true, true, true, true, true, true, true, false, false] rfl rfl (by kernel_rfl) (by decide) (fun K hK => ?_)
                      refine goes_ Try.func41 (by kernel_rfl) rfl #[.agg (bcs l0), .int .i64 a1, .int .i64 t170, .bool false] (by rfl) rfl rfl (by (try simp only [List.map_toArray, List.map_cons, List.map_nil]); first | done | rfl | (simp only [List.length_drop, List.length_take]; rfl)) ?_
                      with_reducible refine ((ih k10_ (by have hHK9__ := HK9_.out; omega)) l0 a1 t170 false t171 _ ?sd0 A14_.out).mono ?_
                      (case sd0 => exact HL0.out)
                      rintro e_ w38_ ⟨rfl, hb⟩
                      refine ⟨_, rfl, ?_⟩
                      have n_ := Aside0.mk (HM.out.step hb)
                      clear HM
                      have HM := n_
                      clear n_
                      clear hb
                      refine hK.out _ _ (⟨(HM.out.box 1 rfl), (by obtain ⟨ad_, e_, h_⟩ := Kd.at_int (Kd.R_reads' (HM.out.R (h1 := fun _ => rfl) 0 rfl)).2.2 x11_8 hp169.out hq169.out; cases e_; exact h_)⟩) (fun hHeld => ?_)
                      clear hK K
                      refine norm_ (a' := ?_) ?_ ?_
                      rotate_left
                      · show Act.put _ (some 34) _ = _
                        simp only [Act.put, List.setIfInBounds_toArray, List.set_cons_zero, List.set_cons_succ, i64_w, i32_w]
                        rfl
                      refine pure_ (i := 10) (N := some 35) (v := ?_) (a' := ?_) #[true, true, true, true, true, true, true, true, true, true, true, false] rfl rfl (by kernel_rfl) (fun _ _ _ h => h) (Or.inl ⟨by rfl, ?_⟩) ?_ ?_
                      rotate_left
                      · intro w'
                        go_simp
                        first | with_reducible rfl | (simp [Instr.field, asAgg, Go.part, run_underlying hu22, run_underlying hu44]; rfl) | rfl
                      rotate_left
                      · simp only [Act.put, List.setIfInBounds_toArray, List.set_cons_zero, List.set_cons_succ, i64_w, i32_w]
                        rfl
                      refine pure_ (i := 11) (N := some 12) (v := ?_) (a' := ?_) #[true, true, true, true, true, true, true, true, true, true, true, true] rfl rfl (by kernel_rfl) (fun _ _ _ h => h) (Or.inl ⟨by rfl, ?_⟩) ?_ ?_
                      rotate_left
                      · intro w'
                        go_simp
                        first | with_reducible rfl | (simp [Instr.field, asAgg, Go.part, run_underlying hu22, run_underlying hu44]; rfl) | rfl
                      rotate_left
                      · simp only [Act.put, List.setIfInBounds_toArray, List.set_cons_zero, List.set_cons_succ, i64_w, i32_w]
                        rfl
                      refine done_ (by kernel_rfl) ?_
                      go_wp2
                      go_roundg k10_
                      case measure => have hHK9__ := HK9_.out; omega
                      case rel => exact ⟨(x9_8), (wrap64 (x11_8 + 1)), (by first | rfl | (simp; done) | (simp [*]; done)), (by first | rfl | (simp; done) | (simp [*]; done)), H', ⟨by have hHK9__ := HK9_.out; omega⟩, HM⟩
              · rw [if_neg c12_] at H
                have c12_b0 : decide (0 ≤ x11_8) = false := decide_eq_false c12_
                clear c12_
                exact absurd H (by simp)
            · rw [if_neg c11_] at H
              have c11_b0 : decide (x11_8 < (t168.length : Int)) = false := decide_eq_false c11_
              clear c11_
              obtain rfl := Option.some.inj H
              go_wp2
              go_ret
              exact ⟨by first | rfl | (simp; done) | (simp [*]; done), HM.out.below⟩
    · rw [if_neg c2_] at H
      have c2_b0 : decide (a2 < 64) = false := decide_eq_false c2_
      clear c2_
      exact absurd H (by simp)
  · rw [if_neg c1_] at H
    have c1_b0 : decide (0 ≤ a2) = false := decide_eq_false c1_
    clear c1_
    exact absurd H (by simp)

/-! ### spec_LongestGame: function 22 -/
def spec_LongestGame.f (k : Nat) (l0 : List Int) (a1 : Int) (a2 : Int) : Option (Int × Bool) := (spec_l9Good.f k l0 a1 a2).bind fun t172 => (if t172 = true then ((spec_l3Table.f k l0).bind fun t173 => ((spec_l9Length.f k t173 a1 a2 true).bind fun t174 => (some (t174, true)))) else (some (0, false)))
set_option maxHeartbeats 8000000 in
set_option maxRecDepth 100000 in
theorem spec_LongestGame.calls (k : Nat) (A0 : Option Addr) (c0 : Nat) (l0 : List Int) (a1 : Int) (a2 : Int) (r1 : Int) (r2 : Bool) (w : World) (hr0 : Kd.C (Kd.int .i64) w A0 l0.length l0) (hc0 : l0.length ≤ c0) (h : spec_LongestGame.f k l0 a1 a2 = some (r1, r2)) :
    Calls Try.prog 22 #[.slice A0 l0.length c0, .int .i64 a1, .int .i64 a2] w fun e w' => e = .returned (.tuple #[.int .i64 r1, .bool r2]) ∧ Below w.heap.size w w' := by
  have HR0 := Aside0.mk hr0
  have HC0 := Aside0.mk hc0
  clear hr0 hc0
  have HM := Aside0.mk (MS.start w)
  have H : ((spec_l9Good.f k l0 a1 a2).bind fun t172 => (if t172 = true then ((spec_l3Table.f k l0).bind fun t173 => ((spec_l9Length.f k t173 a1 a2 true).bind fun t174 => (some (t174, true)))) else (some (0, false)))) = some (r1, r2) := h
  clear h
  replace H := Option.bind_eq_some_iff.mp H
  obtain ⟨t172, A1_0, H⟩ := H
  replace H : (if t172 = true then ((spec_l3Table.f k l0).bind fun t173 => ((spec_l9Length.f k t173 a1 a2 true).bind fun t174 => (some (t174, true)))) else (some (0, false))) = some (r1, r2) := H
  have A1_ := Aside0.mk A1_0
  clear A1_0
  by_cases c2_ : t172 = true
  · subst c2_
    have H1 : ((spec_l3Table.f k l0).bind fun t173 => ((spec_l9Length.f k t173 a1 a2 true).bind fun t174 => (some (t174, true)))) = some (r1, r2) := by rw [if_pos rfl] at H; exact H
    clear H
    have H := H1
    clear H1
    replace H := Option.bind_eq_some_iff.mp H
    obtain ⟨t173, A3_0, H⟩ := H
    replace H : ((spec_l9Length.f k t173 a1 a2 true).bind fun t174 => (some (t174, true))) = some (r1, r2) := H
    have A3_ := Aside0.mk A3_0
    clear A3_0
    replace H := Option.bind_eq_some_iff.mp H
    obtain ⟨t174, A4_0, H⟩ := H
    replace H : (some (t174, true)) = some (r1, r2) := H
    have A4_ := Aside0.mk A4_0
    clear A4_0
    simp only [Option.some.injEq, Prod.mk.injEq] at H
    obtain ⟨rfl, rfl⟩ := H
    go_enter Try.func22, Try.ntmps22
    go_wp2_with (first | ((with_reducible refine gate_callee (f := 28) rfl ?_); (with_reducible refine gate_dst (N := 11) rfl ?_); refine goesL_ (some 11) rfl rfl Try.func28 (by kernel_rfl) rfl #[.slice A0 l0.length c0, .int .i64 a1, .int .i64 a2] rfl (by (try simp only [List.map_toArray, List.map_cons, List.map_nil]); first | done | rfl | (simp only [List.length_drop, List.length_take]; rfl)) ?_; (with_reducible refine (spec_l9Good.calls k _ _ l0 a1 a2 true _ ?sd0 ?sd1 A1_.out).mono ?_); (case sd0 => exact (Kd.C_below HR0.out HM.out.below)); (case sd1 => exact HC0.out); rintro e_ w5_ ⟨rfl, hb⟩; refine ⟨_, rfl, ?_⟩; have n_ := Aside0.mk (HM.out.step hb); clear HM; have HM := n_; clear n_; clear hb) | ((with_reducible refine gate_callee (f := 36) rfl ?_); (with_reducible refine gate_dst (N := 14) rfl ?_); refine goesL_ (some 14) rfl rfl Try.func36 (by kernel_rfl) rfl #[.slice A0 l0.length c0] rfl (by (try simp only [List.map_toArray, List.map_cons, List.map_nil]); first | done | rfl | (simp only [List.length_drop, List.length_take]; rfl)) ?_; (with_reducible refine (spec_l3Table.calls k _ _ l0 t173 _ ?sd0 ?sd1 A3_.out).mono ?_); (case sd0 => exact (Kd.C_below HR0.out HM.out.below)); (case sd1 => exact HC0.out); rintro e_ w6_ ⟨rfl, ho0_, hb⟩; refine ⟨_, rfl, ?_⟩; have HLt173 := Aside0.mk ho0_; have n_ := Aside0.mk (HM.out.step hb); clear HM; have HM := n_; clear n_; clear hb ho0_) | ((with_reducible refine gate_callee (f := 41) rfl ?_); (with_reducible refine gate_dst (N := 17) rfl ?_); refine goesL_ (some 17) rfl rfl Try.func41 (by kernel_rfl) rfl #[.agg (bcs t173), .int .i64 a1, .int .i64 a2, .bool true] rfl (by (try simp only [List.map_toArray, List.map_cons, List.map_nil]); first | done | rfl | (simp only [List.length_drop, List.length_take]; rfl)) ?_; (with_reducible refine (spec_l9Length.calls k t173 a1 a2 true t174 _ ?sd0 A4_.out).mono ?_); (case sd0 => exact HLt173.out); rintro e_ w7_ ⟨rfl, hb⟩; refine ⟨_, rfl, ?_⟩; have n_ := Aside0.mk (HM.out.step hb); clear HM; have HM := n_; clear n_; clear hb))
    go_ret2
    exact ⟨by first | rfl | (simp; done) | (simp [*]; done), HM.out.below⟩
  · replace c2_ := Bool.eq_false_iff.mpr c2_
    subst c2_
    have H1 : (some (0, false)) = some (r1, r2) := by rw [if_neg (show ¬ (false = true) by decide)] at H; exact H
    clear H
    have H := H1
    clear H1
    simp only [Option.some.injEq, Prod.mk.injEq] at H
    obtain ⟨rfl, rfl⟩ := H
    go_enter Try.func22, Try.ntmps22
    go_wp2_with (first | ((with_reducible refine gate_callee (f := 28) rfl ?_); (with_reducible refine gate_dst (N := 11) rfl ?_); refine goesL_ (some 11) rfl rfl Try.func28 (by kernel_rfl) rfl #[.slice A0 l0.length c0, .int .i64 a1, .int .i64 a2] rfl (by (try simp only [List.map_toArray, List.map_cons, List.map_nil]); first | done | rfl | (simp only [List.length_drop, List.length_take]; rfl)) ?_; (with_reducible refine (spec_l9Good.calls k _ _ l0 a1 a2 false _ ?sd0 ?sd1 A1_.out).mono ?_); (case sd0 => exact (Kd.C_below HR0.out HM.out.below)); (case sd1 => exact HC0.out); rintro e_ w8_ ⟨rfl, hb⟩; refine ⟨_, rfl, ?_⟩; have n_ := Aside0.mk (HM.out.step hb); clear HM; have HM := n_; clear n_; clear hb))
    go_ret2
    exact ⟨by first | rfl | (simp; done) | (simp [*]; done), HM.out.below⟩

/-! ### spec_ShortestGame: function 24 -/
def spec_ShortestGame.f (k : Nat) (l0 : List Int) (a1 : Int) (a2 : Int) : Option (Int × Bool) := (spec_l9Good.f k l0 a1 a2).bind fun t175 => (if t175 = true then ((spec_l3Table.f k l0).bind fun t176 => ((spec_l9Length.f k t176 a1 a2 false).bind fun t177 => (some (t177, true)))) else (some (0, false)))
set_option maxHeartbeats 8000000 in
set_option maxRecDepth 100000 in
theorem spec_ShortestGame.calls (k : Nat) (A0 : Option Addr) (c0 : Nat) (l0 : List Int) (a1 : Int) (a2 : Int) (r1 : Int) (r2 : Bool) (w : World) (hr0 : Kd.C (Kd.int .i64) w A0 l0.length l0) (hc0 : l0.length ≤ c0) (h : spec_ShortestGame.f k l0 a1 a2 = some (r1, r2)) :
    Calls Try.prog 24 #[.slice A0 l0.length c0, .int .i64 a1, .int .i64 a2] w fun e w' => e = .returned (.tuple #[.int .i64 r1, .bool r2]) ∧ Below w.heap.size w w' := by
  have HR0 := Aside0.mk hr0
  have HC0 := Aside0.mk hc0
  clear hr0 hc0
  have HM := Aside0.mk (MS.start w)
  have H : ((spec_l9Good.f k l0 a1 a2).bind fun t175 => (if t175 = true then ((spec_l3Table.f k l0).bind fun t176 => ((spec_l9Length.f k t176 a1 a2 false).bind fun t177 => (some (t177, true)))) else (some (0, false)))) = some (r1, r2) := h
  clear h
  replace H := Option.bind_eq_some_iff.mp H
  obtain ⟨t175, A1_0, H⟩ := H
  replace H : (if t175 = true then ((spec_l3Table.f k l0).bind fun t176 => ((spec_l9Length.f k t176 a1 a2 false).bind fun t177 => (some (t177, true)))) else (some (0, false))) = some (r1, r2) := H
  have A1_ := Aside0.mk A1_0
  clear A1_0
  by_cases c2_ : t175 = true
  · subst c2_
    have H1 : ((spec_l3Table.f k l0).bind fun t176 => ((spec_l9Length.f k t176 a1 a2 false).bind fun t177 => (some (t177, true)))) = some (r1, r2) := by rw [if_pos rfl] at H; exact H
    clear H
    have H := H1
    clear H1
    replace H := Option.bind_eq_some_iff.mp H
    obtain ⟨t176, A3_0, H⟩ := H
    replace H : ((spec_l9Length.f k t176 a1 a2 false).bind fun t177 => (some (t177, true))) = some (r1, r2) := H
    have A3_ := Aside0.mk A3_0
    clear A3_0
    replace H := Option.bind_eq_some_iff.mp H
    obtain ⟨t177, A4_0, H⟩ := H
    replace H : (some (t177, true)) = some (r1, r2) := H
    have A4_ := Aside0.mk A4_0
    clear A4_0
    simp only [Option.some.injEq, Prod.mk.injEq] at H
    obtain ⟨rfl, rfl⟩ := H
    go_enter Try.func24, Try.ntmps24
    go_wp2_with (first | ((with_reducible refine gate_callee (f := 28) rfl ?_); (with_reducible refine gate_dst (N := 11) rfl ?_); refine goesL_ (some 11) rfl rfl Try.func28 (by kernel_rfl) rfl #[.slice A0 l0.length c0, .int .i64 a1, .int .i64 a2] rfl (by (try simp only [List.map_toArray, List.map_cons, List.map_nil]); first | done | rfl | (simp only [List.length_drop, List.length_take]; rfl)) ?_; (with_reducible refine (spec_l9Good.calls k _ _ l0 a1 a2 true _ ?sd0 ?sd1 A1_.out).mono ?_); (case sd0 => exact (Kd.C_below HR0.out HM.out.below)); (case sd1 => exact HC0.out); rintro e_ w5_ ⟨rfl, hb⟩; refine ⟨_, rfl, ?_⟩; have n_ := Aside0.mk (HM.out.step hb); clear HM; have HM := n_; clear n_; clear hb) | ((with_reducible refine gate_callee (f := 36) rfl ?_); (with_reducible refine gate_dst (N := 14) rfl ?_); refine goesL_ (some 14) rfl rfl Try.func36 (by kernel_rfl) rfl #[.slice A0 l0.length c0] rfl (by (try simp only [List.map_toArray, List.map_cons, List.map_nil]); first | done | rfl | (simp only [List.length_drop, List.length_take]; rfl)) ?_; (with_reducible refine (spec_l3Table.calls k _ _ l0 t176 _ ?sd0 ?sd1 A3_.out).mono ?_); (case sd0 => exact (Kd.C_below HR0.out HM.out.below)); (case sd1 => exact HC0.out); rintro e_ w6_ ⟨rfl, ho0_, hb⟩; refine ⟨_, rfl, ?_⟩; have HLt176 := Aside0.mk ho0_; have n_ := Aside0.mk (HM.out.step hb); clear HM; have HM := n_; clear n_; clear hb ho0_) | ((with_reducible refine gate_callee (f := 41) rfl ?_); (with_reducible refine gate_dst (N := 17) rfl ?_); refine goesL_ (some 17) rfl rfl Try.func41 (by kernel_rfl) rfl #[.agg (bcs t176), .int .i64 a1, .int .i64 a2, .bool false] rfl (by (try simp only [List.map_toArray, List.map_cons, List.map_nil]); first | done | rfl | (simp only [List.length_drop, List.length_take]; rfl)) ?_; (with_reducible refine (spec_l9Length.calls k t176 a1 a2 false t177 _ ?sd0 A4_.out).mono ?_); (case sd0 => exact HLt176.out); rintro e_ w7_ ⟨rfl, hb⟩; refine ⟨_, rfl, ?_⟩; have n_ := Aside0.mk (HM.out.step hb); clear HM; have HM := n_; clear n_; clear hb))
    go_ret2
    exact ⟨by first | rfl | (simp; done) | (simp [*]; done), HM.out.below⟩
  · replace c2_ := Bool.eq_false_iff.mpr c2_
    subst c2_
    have H1 : (some (0, false)) = some (r1, r2) := by rw [if_neg (show ¬ (false = true) by decide)] at H; exact H
    clear H
    have H := H1
    clear H1
    simp only [Option.some.injEq, Prod.mk.injEq] at H
    obtain ⟨rfl, rfl⟩ := H
    go_enter Try.func24, Try.ntmps24
    go_wp2_with (first | ((with_reducible refine gate_callee (f := 28) rfl ?_); (with_reducible refine gate_dst (N := 11) rfl ?_); refine goesL_ (some 11) rfl rfl Try.func28 (by kernel_rfl) rfl #[.slice A0 l0.length c0, .int .i64 a1, .int .i64 a2] rfl (by (try simp only [List.map_toArray, List.map_cons, List.map_nil]); first | done | rfl | (simp only [List.length_drop, List.length_take]; rfl)) ?_; (with_reducible refine (spec_l9Good.calls k _ _ l0 a1 a2 false _ ?sd0 ?sd1 A1_.out).mono ?_); (case sd0 => exact (Kd.C_below HR0.out HM.out.below)); (case sd1 => exact HC0.out); rintro e_ w8_ ⟨rfl, hb⟩; refine ⟨_, rfl, ?_⟩; have n_ := Aside0.mk (HM.out.step hb); clear HM; have HM := n_; clear n_; clear hb))
    go_ret2
    exact ⟨by first | rfl | (simp; done) | (simp [*]; done), HM.out.below⟩

end Go.Proofs.Ytbnhnmcbaacdiaa.Q
