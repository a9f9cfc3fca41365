-- Written by a program of this session's own (wip/wgen.py): what functions of the program compute, and that they do.
import Derived.Below
import Derived.Deep.Draws
import Derived.Deep.AppendLies
import Derived.Maps.AppendAt
import Derived.OwnWalk
import Derived.Laws.BytesArg
import Derived.Laws.MakeOwn
import Derived.Laws.OwnMore
import Derived.Deep.OwnRows
import Derived.Tactics
import Derived.Lib.ConvBytes
import Derived.Laws.Slices
import Derived.WalkKit
import Derived.KernelRfl
import Derived.RowKit3
import Derived.Deep.LoopGhost
import Derived.Deep.QuietTactic
import Derived.BigQuiet
import Derived.WideLaws
import Derived.Deep.DeepCutAuto
import Derived.Deep.CutBlock
import Derived.Deep.RegionHeld3
import Derived.Laws.Rows
import Derived.Lib.AppendStr
import Derived.ArgAppend
import Derived.Laws.IdiomCopy
import Derived.OrdersHeld
import Derived.Laws.BitsLemmas
import Derived.RowKit
import Derived.Test.YtbnhnmcbaacdiaaHM
import Derived.Test.YtbnhnmcbaacdiaaRG
import Derived.Test.YtbnhnmcbaacdiaaProg
import Derived.Test.YtbnhnmcbaacdiaaK1
import Derived.Test.YtbnhnmcbaacdiaaK2
import Derived.Test.YtbnhnmcbaacdiaaQI
import Derived.Test.YtbnhnmcbaacdiaaCN
import Derived.Test.YtbnhnmcbaacdiaaDF
import Derived.Test.YtbnhnmcbaacdiaaQA
import Derived.Test.YtbnhnmcbaacdiaaQS
namespace Go.Proofs.Ytbnhnmcbaacdiaa.Q
open Go.RowKit Go.Proofs.YtbnhnmcbaacdiaaW.PrintWords Go.Proofs.YtbnhnmcbaacdiaaW.PrintLast Go.Proofs.YtbnhnmcbaacdiaaW.PrintMore Go.Proofs.YtbnhnmcbaacdiaaM Go.Proofs.Ytbnhnmcbaacdiaa.K
attribute [local go_sem] max2_int min2_int max_two min_two max_three min_three max_four min_four
set_option linter.unusedVariables false
set_option linter.unusedSimpArgs false

/-! ### impl_game_all: function 49 -/
def impl_game_all.f (a0_0 : Int) (l0_1 : List Bool) : Option (Int) := if 0 ≤ a0_0 then (some (wrap64 ((shl .i64 1 a0_0) - 1))) else (none)
set_option maxHeartbeats 8000000 in
set_option maxRecDepth 100000 in
theorem impl_game_all.calls (gb1 : Nat) (a0_0 : Int) (l0_1 : List Bool) (r : Int) (w : World) (hl0_1 : l0_1.length = 64) (hq1 : w.heap[gb1]? = some (.cells (#[.int .i64 a0_0] ++ (bcs l0_1)) 46 (0, 0))) (h : impl_game_all.f a0_0 l0_1 = some r) :
    Calls Try.prog 49 #[.pointer (some ⟨gb1, 0, none⟩)] w fun e w' => e = .returned (.int .i64 r) ∧ Drawn0 w w' := by
  have HL0_1 := Aside0.mk hl0_1
  clear hl0_1
  have HQ1 := Aside0.mk hq1
  clear hq1
  have hu46 := Try.underlying46
  have HM := Aside0.mk (MS.start w)
  have HD := Aside0.mk (Drawn0.refl w)
  have H : (if 0 ≤ a0_0 then (some (wrap64 ((shl .i64 1 a0_0) - 1))) else (none)) = some r := h
  clear h
  by_cases c1_ : 0 ≤ a0_0
  · rw [if_pos c1_] at H
    have c1_x := eq_true c1_
    have c1_b0 : decide (0 ≤ a0_0) = true := decide_eq_true c1_
    clear c1_
    obtain ⟨ji2_, hji2_⟩ : ∃ j_ : Int, (shl .i64 1 a0_0) = j_ := ⟨_, rfl⟩
    replace H : (some (wrap64 (ji2_ - 1))) = some r := by first | (rw [hji2_] at H; exact H) | (simp only [hji2_] at H ⊢; exact H)
    have hji2__ : (IntKind.i64.wrap (1 * 2 ^ min (a0_0).toNat 64)) = ji2_ := hji2_
    have hji2_z : (a0_0) ≤ 64 → (IntKind.i64.wrap (1 * 2 ^ (a0_0).toNat)) = ji2_ := shl_small hji2_
    have hji2_u : (IntKind.i64.wrap (2 ^ min (a0_0).toNat 64)) = ji2_ := by have h_ := hji2__; rw [Int.one_mul] at h_; exact h_
    have hji2_v : (a0_0) ≤ 64 → (IntKind.i64.wrap (2 ^ (a0_0).toNat)) = ji2_ := fun hle_ => by have h_ := hji2_z hle_; rw [Int.one_mul] at h_; exact h_
    have hji2_y : (wrap64 (1 * 2 ^ min (a0_0).toNat 64)) = ji2_ := (i64_w _).symm.trans hji2__
    have hji2_x : (a0_0) ≤ 64 → (wrap64 (1 * 2 ^ (a0_0).toNat)) = ji2_ := fun h_ => (i64_w _).symm.trans (hji2_z h_)
    obtain rfl := Option.some.inj H
    have hcz3_ : w.cell? ⟨gb1, 0, none⟩ = some (.int .i64 a0_0) := fcell0 (blk_below HQ1.out HM.out.below)
    go_enter Try.func49, Try.ntmps49
    go_wp2
    go_ret
    exact ⟨by first | rfl | (simp; done) | (simp only [← hji2_] <;> (first | rfl | simp)) | (simp [*]; done), HD.out⟩
  · rw [if_neg c1_] at H
    have c1_b0 : decide (0 ≤ a0_0) = false := decide_eq_false c1_
    clear c1_
    exact absurd H (by simp)

/-! ### impl_gameOf: function 48 -/
def impl_gameOf.f (k : Nat) (l0 : List Int) (a1 : Int) : Option (Bool × Int × List Bool × Bool) := (impl_isWord.f k l0).bind fun t178 => (if t178 = true then ((impl_isNail.f a1).bind fun t179 => (if t179 = true then ((impl_fallTable.f k l0).bind fun t180 => ((impl_game_all.f a1 t180).bind fun t181 => (if 0 ≤ t181 then (if t181 < 64 then (some (true, a1, t180, rdOf false t180 t181)) else (none)) else (none)))) else (some (false, 0, List.replicate 64 false, false)))) else (some (false, 0, List.replicate 64 false, false)))
set_option maxHeartbeats 8000000 in
set_option maxRecDepth 100000 in
theorem impl_gameOf.calls (k : Nat) (A0 : Option Addr) (c0 : Nat) (l0 : List Int) (a1 : Int) (r1 : Bool) (r2 : Int) (r3 : List Bool) (r4 : Bool) (w : World) (hr0 : Kd.C (Kd.int .i64) w A0 l0.length l0) (hc0 : l0.length ≤ c0) (h : impl_gameOf.f k l0 a1 = some (r1, r2, r3, r4)) :
    Calls Try.prog 48 #[.slice A0 l0.length c0, .int .i64 a1] w fun e w' => ∃ v0_ : Value, e = .returned (.tuple #[v0_, .bool r4]) ∧ PtrTo w w' 46 r1 (#[.int .i64 r2] ++ (bcs r3)) v0_ ∧ r3.length = 64 ∧ Below w.heap.size w w' := by
  have HR0 := Aside0.mk hr0
  have HC0 := Aside0.mk hc0
  clear hr0 hc0
  have hu44 := Try.underlying44
  have hu46 := Try.underlying46
  have HM := Aside0.mk (MS.start w)
  have H : ((impl_isWord.f k l0).bind fun t178 => (if t178 = true then ((impl_isNail.f a1).bind fun t179 => (if t179 = true then ((impl_fallTable.f k l0).bind fun t180 => ((impl_game_all.f a1 t180).bind fun t181 => (if 0 ≤ t181 then (if t181 < 64 then (some (true, a1, t180, rdOf false t180 t181)) else (none)) else (none)))) else (some (false, 0, List.replicate 64 false, false)))) else (some (false, 0, List.replicate 64 false, false)))) = some (r1, r2, r3, r4) := h
  clear h
  replace H := Option.bind_eq_some_iff.mp H
  obtain ⟨t178, A1_0, H⟩ := H
  replace H : (if t178 = true then ((impl_isNail.f a1).bind fun t179 => (if t179 = true then ((impl_fallTable.f k l0).bind fun t180 => ((impl_game_all.f a1 t180).bind fun t181 => (if 0 ≤ t181 then (if t181 < 64 then (some (true, a1, t180, rdOf false t180 t181)) else (none)) else (none)))) else (some (false, 0, List.replicate 64 false, false)))) else (some (false, 0, List.replicate 64 false, false))) = some (r1, r2, r3, r4) := H
  have A1_ := Aside0.mk A1_0
  clear A1_0
  by_cases c2_ : t178 = true
  · subst c2_
    have H1 : ((impl_isNail.f a1).bind fun t179 => (if t179 = true then ((impl_fallTable.f k l0).bind fun t180 => ((impl_game_all.f a1 t180).bind fun t181 => (if 0 ≤ t181 then (if t181 < 64 then (some (true, a1, t180, rdOf false t180 t181)) else (none)) else (none)))) else (some (false, 0, List.replicate 64 false, false)))) = some (r1, r2, r3, r4) := by rw [if_pos rfl] at H; exact H
    clear H
    have H := H1
    clear H1
    replace H := Option.bind_eq_some_iff.mp H
    obtain ⟨t179, A3_0, H⟩ := H
    replace H : (if t179 = true then ((impl_fallTable.f k l0).bind fun t180 => ((impl_game_all.f a1 t180).bind fun t181 => (if 0 ≤ t181 then (if t181 < 64 then (some (true, a1, t180, rdOf false t180 t181)) else (none)) else (none)))) else (some (false, 0, List.replicate 64 false, false))) = some (r1, r2, r3, r4) := H
    have A3_ := Aside0.mk A3_0
    clear A3_0
    by_cases c4_ : t179 = true
    · subst c4_
      have H1 : ((impl_fallTable.f k l0).bind fun t180 => ((impl_game_all.f a1 t180).bind fun t181 => (if 0 ≤ t181 then (if t181 < 64 then (some (true, a1, t180, rdOf false t180 t181)) else (none)) else (none)))) = some (r1, r2, r3, r4) := by rw [if_pos rfl] at H; exact H
      clear H
      have H := H1
      clear H1
      replace H := Option.bind_eq_some_iff.mp H
      obtain ⟨t180, A5_0, H⟩ := H
      replace H : ((impl_game_all.f a1 t180).bind fun t181 => (if 0 ≤ t181 then (if t181 < 64 then (some (true, a1, t180, rdOf false t180 t181)) else (none)) else (none))) = some (r1, r2, r3, r4) := H
      have A5_ := Aside0.mk A5_0
      clear A5_0
      replace H := Option.bind_eq_some_iff.mp H
      obtain ⟨t181, A6_0, H⟩ := H
      replace H : (if 0 ≤ t181 then (if t181 < 64 then (some (true, a1, t180, rdOf false t180 t181)) else (none)) else (none)) = some (r1, r2, r3, r4) := H
      have A6_ := Aside0.mk A6_0
      clear A6_0
      by_cases c7_ : 0 ≤ t181
      · rw [if_pos c7_] at H
        have c7_b0 : decide (0 ≤ t181) = true := decide_eq_true c7_
        clear c7_
        by_cases c8_ : t181 < 64
        · rw [if_pos c8_] at H
          have c8_b0 : decide (t181 < 64) = true := decide_eq_true c8_
          clear c8_
          simp only [Option.some.injEq, Prod.mk.injEq] at H
          obtain ⟨rfl, rfl, rfl, rfl⟩ := H
          go_enter Try.func48, Try.ntmps48
          go_wp2_with (first | ((with_reducible refine gate_callee (f := 59) rfl ?_); (with_reducible refine gate_dst (N := 8) rfl ?_); refine goesL_ (some 8) rfl rfl Try.func59 (by kernel_rfl) rfl #[.slice A0 l0.length c0] rfl (by (try simp only [List.map_toArray, List.map_cons, List.map_nil]); first | done | rfl | (simp only [List.length_drop, List.length_take]; rfl)) ?_; (with_reducible refine (impl_isWord.calls k _ _ l0 true _ ?sd0 ?sd1 A1_.out).mono ?_); (case sd0 => exact (Kd.C_below HR0.out HM.out.below)); (case sd1 => exact HC0.out); rintro e_ w9_ ⟨rfl, hb⟩; refine ⟨_, rfl, ?_⟩; have n_ := Aside0.mk (HM.out.step hb); clear HM; have HM := n_; clear n_; clear hb) | (go_at_call 60; (refine calls_of_args (args' := #[.int .i64 a1]) (by first | done | rfl) ?_); (with_reducible refine (impl_isNail.calls a1 true _  A3_.out).mono ?_); rintro e_ w10_ ⟨rfl, hd_⟩; have hb := hd_.below; clear hd_; have n_ := Aside0.mk (HM.out.step hb); clear HM; have HM := n_; clear n_; clear hb) | ((with_reducible refine gate_callee (f := 61) rfl ?_); (with_reducible refine gate_dst (N := 17) rfl ?_); refine goesL_ (some 17) rfl rfl Try.func61 (by kernel_rfl) rfl #[.slice A0 l0.length c0] rfl (by (try simp only [List.map_toArray, List.map_cons, List.map_nil]); first | done | rfl | (simp only [List.length_drop, List.length_take]; rfl)) ?_; (with_reducible refine (impl_fallTable.calls k _ _ l0 t180 _ ?sd0 ?sd1 A5_.out).mono ?_); (case sd0 => exact (Kd.C_below HR0.out HM.out.below)); (case sd1 => exact HC0.out); rintro e_ w11_ ⟨rfl, ho0_, hb⟩; refine ⟨_, rfl, ?_⟩; have HLt180 := Aside0.mk ho0_; have n_ := Aside0.mk (HM.out.step hb); clear HM; have HM := n_; clear n_; clear hb ho0_) | ((with_reducible refine gate_dst (N := 18) rfl ?_); refine build_zero ?hg (N := 18) ?hd (cs := (#[.int .i64 a1] ++ (bcs t180))) ?hr ?_; (case hd => rfl); (case hg => rfl); (case hr => exact buildS_run _ rfl rfl rfl (built_two 64 (by kernel_rfl) (.int .i64 a1) rfl (bcs t180) (by rw [bcs_size]; exact HLt180.out)))) | ((with_reducible refine gate_dst (N := 19) rfl ?_); refine box_event ?hg (N := 19) ?hd (cs := (#[.int .i64 a1] ++ (bcs t180))) (t := 46) ?hr ?_; (case hd => rfl); (case hg => rfl); (case hr => first | (go_simp; done) | (go_simp; rfl)); intro gb1 hg w12_ hbox hb; have n_ := Aside0.mk (HM.out.addBox hb hbox hg); clear HM; have HM := n_; clear n_; clear hb hbox hg))
          have p182 : 0 ≤ (t181 : Int) := of_decide_eq_true (by first | (with_reducible assumption) | assumption)
          have q182 : (t181 : Int) < 64 := of_decide_eq_true (by first | (with_reducible assumption) | assumption)
          have hx182 := fcellB (HM.out.box 0 rfl) 1 rfl t181 p182 (by have := HLt180.out; omega)
          replace p182 := eq_true p182
          replace q182 := eq_true q182
          go_quiet ((go_at_call 49; refine calls_quiet (v := .int .i64 t181) ?_; exact (impl_game_all.calls _ a1 t180 t181 _ HLt180.out (blk_below (HM.out.box 0 rfl) (pw_below_drewN (Below.refl _ _) _)) A6_.out)))
          generalize hw : World.drewN _ _ = w14_
          have n_ := Aside0.mk (HM.out.step (show Below _ _ w14_ from hw ▸ pw_below_drewN (Below.refl _ _) _))
          clear HM hw
          have HM := n_
          clear n_
          go_wp2
          go_ret2
          exact ⟨_, by first | rfl | (simp; done) | (simp [*]; done), PtrTo.mk (HM.out.box 0 rfl) (HM.out.boxGe 0 rfl), HLt180.out, HM.out.below⟩
        · rw [if_neg c8_] at H
          have c8_b0 : decide (t181 < 64) = false := decide_eq_false c8_
          clear c8_
          exact absurd H (by simp)
      · rw [if_neg c7_] at H
        have c7_b0 : decide (0 ≤ t181) = false := decide_eq_false c7_
        clear c7_
        exact absurd H (by simp)
    · replace c4_ := Bool.eq_false_iff.mpr c4_
      subst c4_
      have H1 : (some (false, 0, List.replicate 64 false, false)) = some (r1, r2, r3, r4) := by rw [if_neg (show ¬ (false = true) by decide)] at H; exact H
      clear H
      have H := H1
      clear H1
      simp only [Option.some.injEq, Prod.mk.injEq] at H
      obtain ⟨rfl, rfl, rfl, rfl⟩ := H
      go_enter Try.func48, Try.ntmps48
      go_wp2_with (first | ((with_reducible refine gate_callee (f := 59) rfl ?_); (with_reducible refine gate_dst (N := 8) rfl ?_); refine goesL_ (some 8) rfl rfl Try.func59 (by kernel_rfl) rfl #[.slice A0 l0.length c0] rfl (by (try simp only [List.map_toArray, List.map_cons, List.map_nil]); first | done | rfl | (simp only [List.length_drop, List.length_take]; rfl)) ?_; (with_reducible refine (impl_isWord.calls k _ _ l0 true _ ?sd0 ?sd1 A1_.out).mono ?_); (case sd0 => exact (Kd.C_below HR0.out HM.out.below)); (case sd1 => exact HC0.out); rintro e_ w15_ ⟨rfl, hb⟩; refine ⟨_, rfl, ?_⟩; have n_ := Aside0.mk (HM.out.step hb); clear HM; have HM := n_; clear n_; clear hb) | (go_at_call 60; (refine calls_of_args (args' := #[.int .i64 a1]) (by first | done | rfl) ?_); (with_reducible refine (impl_isNail.calls a1 false _  A3_.out).mono ?_); rintro e_ w16_ ⟨rfl, hd_⟩; have hb := hd_.below; clear hd_; have n_ := Aside0.mk (HM.out.step hb); clear HM; have HM := n_; clear n_; clear hb))
      go_ret2
      exact ⟨_, by first | rfl | (simp; done) | (simp [*]; done), PtrTo.nil, (List.length_replicate), HM.out.below⟩
  · replace c2_ := Bool.eq_false_iff.mpr c2_
    subst c2_
    have H1 : (some (false, 0, List.replicate 64 false, false)) = some (r1, r2, r3, r4) := by rw [if_neg (show ¬ (false = true) by decide)] at H; exact H
    clear H
    have H := H1
    clear H1
    simp only [Option.some.injEq, Prod.mk.injEq] at H
    obtain ⟨rfl, rfl, rfl, rfl⟩ := H
    go_enter Try.func48, Try.ntmps48
    go_wp2_with (first | ((with_reducible refine gate_callee (f := 59) rfl ?_); (with_reducible refine gate_dst (N := 8) rfl ?_); refine goesL_ (some 8) rfl rfl Try.func59 (by kernel_rfl) rfl #[.slice A0 l0.length c0] rfl (by (try simp only [List.map_toArray, List.map_cons, List.map_nil]); first | done | rfl | (simp only [List.length_drop, List.length_take]; rfl)) ?_; (with_reducible refine (impl_isWord.calls k _ _ l0 false _ ?sd0 ?sd1 A1_.out).mono ?_); (case sd0 => exact (Kd.C_below HR0.out HM.out.below)); (case sd1 => exact HC0.out); rintro e_ w17_ ⟨rfl, hb⟩; refine ⟨_, rfl, ?_⟩; have n_ := Aside0.mk (HM.out.step hb); clear HM; have HM := n_; clear n_; clear hb))
    go_ret2
    exact ⟨_, by first | rfl | (simp; done) | (simp [*]; done), PtrTo.nil, (List.length_replicate), HM.out.below⟩

/-! ### impl_gameAt: function 33 -/
def impl_gameAt.f (k : Nat) (l0 : List Int) (a1 : Int) (a2 : Int) : Option (Bool × Int × List Bool × Bool) := (impl_gameOf.f k l0 a1).bind fun bt183 => (if bt183.1 = true then (if bt183.2.2.2 = true then (if a2 ≥ 0 then ((impl_game_all.f bt183.2.1 bt183.2.2.1).bind fun t187 => (if a2 ≤ t187 then (if 0 ≤ a2 then (if a2 < 64 then (some (true, bt183.2.1, bt183.2.2.1, !(rdOf false bt183.2.2.1 a2))) else (none)) else (none)) else (some (true, bt183.2.1, bt183.2.2.1, false)))) else (some (true, bt183.2.1, bt183.2.2.1, false))) else (some (true, bt183.2.1, bt183.2.2.1, false))) else (if bt183.2.2.2 = true then (if a2 ≥ 0 then (none) else (some (false, 0, List.replicate 64 false, false))) else (some (false, 0, List.replicate 64 false, false))))
set_option maxHeartbeats 8000000 in
set_option maxRecDepth 100000 in
theorem impl_gameAt.calls (k : Nat) (A0 : Option Addr) (c0 : Nat) (l0 : List Int) (a1 : Int) (a2 : Int) (r1 : Bool) (r2 : Int) (r3 : List Bool) (r4 : Bool) (w : World) (hr0 : Kd.C (Kd.int .i64) w A0 l0.length l0) (hc0 : l0.length ≤ c0) (h : impl_gameAt.f k l0 a1 a2 = some (r1, r2, r3, r4)) :
    Calls Try.prog 33 #[.slice A0 l0.length c0, .int .i64 a1, .int .i64 a2] w fun e w' => ∃ v0_ : Value, e = .returned (.tuple #[v0_, .bool r4]) ∧ PtrTo w w' 46 r1 (#[.int .i64 r2] ++ (bcs r3)) v0_ ∧ r3.length = 64 ∧ Below w.heap.size w w' := by
  have HR0 := Aside0.mk hr0
  have HC0 := Aside0.mk hc0
  clear hr0 hc0
  have hu44 := Try.underlying44
  have hu46 := Try.underlying46
  have HM := Aside0.mk (MS.start w)
  have H : ((impl_gameOf.f k l0 a1).bind fun bt183 => (if bt183.1 = true then (if bt183.2.2.2 = true then (if a2 ≥ 0 then ((impl_game_all.f bt183.2.1 bt183.2.2.1).bind fun t187 => (if a2 ≤ t187 then (if 0 ≤ a2 then (if a2 < 64 then (some (true, bt183.2.1, bt183.2.2.1, !(rdOf false bt183.2.2.1 a2))) else (none)) else (none)) else (some (true, bt183.2.1, bt183.2.2.1, false)))) else (some (true, bt183.2.1, bt183.2.2.1, false))) else (some (true, bt183.2.1, bt183.2.2.1, false))) else (if bt183.2.2.2 = true then (if a2 ≥ 0 then (none) else (some (false, 0, List.replicate 64 false, false))) else (some (false, 0, List.replicate 64 false, false))))) = some (r1, r2, r3, r4) := h
  clear h
  replace H := Option.bind_eq_some_iff.mp H
  obtain ⟨⟨t183, t184, t185, t186⟩, A1_0, H⟩ := H
  replace H : (if t183 = true then (if t186 = true then (if a2 ≥ 0 then ((impl_game_all.f t184 t185).bind fun t187 => (if a2 ≤ t187 then (if 0 ≤ a2 then (if a2 < 64 then (some (true, t184, t185, !(rdOf false t185 a2))) else (none)) else (none)) else (some (true, t184, t185, false)))) else (some (true, t184, t185, false))) else (some (true, t184, t185, false))) else (if t186 = true then (if a2 ≥ 0 then (none) else (some (false, 0, List.replicate 64 false, false))) else (some (false, 0, List.replicate 64 false, false)))) = some (r1, r2, r3, r4) := H
  have A1_ := Aside0.mk A1_0
  clear A1_0
  by_cases c2_ : t183 = true
  · subst c2_
    have H1 : (if t186 = true then (if a2 ≥ 0 then ((impl_game_all.f t184 t185).bind fun t187 => (if a2 ≤ t187 then (if 0 ≤ a2 then (if a2 < 64 then (some (true, t184, t185, !(rdOf false t185 a2))) else (none)) else (none)) else (some (true, t184, t185, false)))) else (some (true, t184, t185, false))) else (some (true, t184, t185, false))) = some (r1, r2, r3, r4) := by rw [if_pos rfl] at H; exact H
    clear H
    have H := H1
    clear H1
    by_cases c3_ : t186 = true
    · subst c3_
      have H1 : (if a2 ≥ 0 then ((impl_game_all.f t184 t185).bind fun t187 => (if a2 ≤ t187 then (if 0 ≤ a2 then (if a2 < 64 then (some (true, t184, t185, !(rdOf false t185 a2))) else (none)) else (none)) else (some (true, t184, t185, false)))) else (some (true, t184, t185, false))) = some (r1, r2, r3, r4) := by rw [if_pos rfl] at H; exact H
      clear H
      have H := H1
      clear H1
      by_cases c4_ : a2 ≥ 0
      · rw [if_pos c4_] at H
        have c4_b0 : decide (0 ≤ a2) = true := decide_eq_true c4_
        clear c4_
        replace H := Option.bind_eq_some_iff.mp H
        obtain ⟨t187, A5_0, H⟩ := H
        replace H : (if a2 ≤ t187 then (if 0 ≤ a2 then (if a2 < 64 then (some (true, t184, t185, !(rdOf false t185 a2))) else (none)) else (none)) else (some (true, t184, t185, false))) = some (r1, r2, r3, r4) := H
        have A5_ := Aside0.mk A5_0
        clear A5_0
        by_cases c6_ : a2 ≤ t187
        · rw [if_pos c6_] at H
          have c6_b0 : decide (a2 ≤ t187) = true := decide_eq_true c6_
          clear c6_
          by_cases c7_ : 0 ≤ a2
          · rw [if_pos c7_] at H
            have c7_b0 : decide (0 ≤ a2) = true := decide_eq_true c7_
            clear c7_
            by_cases c8_ : a2 < 64
            · rw [if_pos c8_] at H
              have c8_b0 : decide (a2 < 64) = true := decide_eq_true c8_
              clear c8_
              simp only [Option.some.injEq, Prod.mk.injEq] at H
              obtain ⟨rfl, rfl, rfl, rfl⟩ := H
              go_enter Try.func33, Try.ntmps33
              go_wp2_with (first | ((with_reducible refine gate_callee (f := 48) rfl ?_); (with_reducible refine gate_dst (N := 13) rfl ?_); refine goesL_ (some 13) rfl rfl Try.func48 (by kernel_rfl) rfl #[.slice A0 l0.length c0, .int .i64 a1] rfl (by (try simp only [List.map_toArray, List.map_cons, List.map_nil]); first | done | rfl | (simp only [List.length_drop, List.length_take]; rfl)) ?_; (with_reducible refine (impl_gameOf.calls k _ _ l0 a1 true t184 t185 true _ ?sd0 ?sd1 A1_.out).mono ?_); (case sd0 => exact (Kd.C_below HR0.out HM.out.below)); (case sd1 => exact HC0.out); rintro e_ w9_ ⟨vv0_, rfl, ho0_, ho1_, hb⟩; refine ⟨_, rfl, ?_⟩; have HLt185 := Aside0.mk ho1_; obtain ⟨gb1, ev_, hbx_, hge_⟩ := PtrTo.yes ho0_; subst ev_; have n_ := Aside0.mk (HM.out.addPtr hb hbx_ hge_); clear HM; have HM := n_; clear n_; clear hbx_ hge_; clear hb ho0_ ho1_))
              have p188 : 0 ≤ (a2 : Int) := of_decide_eq_true (by first | (with_reducible assumption) | assumption)
              have q188 : (a2 : Int) < 64 := of_decide_eq_true (by first | (with_reducible assumption) | assumption)
              have hx188 := fcellB (HM.out.box 0 rfl) 1 rfl a2 p188 (by have := HLt185.out; omega)
              replace p188 := eq_true p188
              replace q188 := eq_true q188
              go_quiet ((go_at_call 49; refine calls_quiet (v := .int .i64 t187) ?_; exact (impl_game_all.calls _ t184 t185 t187 _ HLt185.out (blk_below (HM.out.box 0 rfl) (pw_below_drewN (Below.refl _ _) _)) A5_.out)))
              generalize hw : World.drewN _ _ = w11_
              have n_ := Aside0.mk (HM.out.step (show Below _ _ w11_ from hw ▸ pw_below_drewN (Below.refl _ _) _))
              clear HM hw
              have HM := n_
              clear n_
              go_wp2
              go_ret2
              exact ⟨_, by first | rfl | (simp; done) | (simp [*]; done), PtrTo.mk (HM.out.box 0 rfl) (HM.out.boxGe 0 rfl), HLt185.out, HM.out.below⟩
            · rw [if_neg c8_] at H
              have c8_b0 : decide (a2 < 64) = false := decide_eq_false c8_
              clear c8_
              exact absurd H (by simp)
          · rw [if_neg c7_] at H
            have c7_b0 : decide (0 ≤ a2) = false := decide_eq_false c7_
            clear c7_
            exact absurd H (by simp)
        · rw [if_neg c6_] at H
          have c6_b0 : decide (a2 ≤ t187) = false := decide_eq_false c6_
          clear c6_
          simp only [Option.some.injEq, Prod.mk.injEq] at H
          obtain ⟨rfl, rfl, rfl, rfl⟩ := H
          go_enter Try.func33, Try.ntmps33
          go_wp2_with (first | ((with_reducible refine gate_callee (f := 48) rfl ?_); (with_reducible refine gate_dst (N := 13) rfl ?_); refine goesL_ (some 13) rfl rfl Try.func48 (by kernel_rfl) rfl #[.slice A0 l0.length c0, .int .i64 a1] rfl (by (try simp only [List.map_toArray, List.map_cons, List.map_nil]); first | done | rfl | (simp only [List.length_drop, List.length_take]; rfl)) ?_; (with_reducible refine (impl_gameOf.calls k _ _ l0 a1 true t184 t185 true _ ?sd0 ?sd1 A1_.out).mono ?_); (case sd0 => exact (Kd.C_below HR0.out HM.out.below)); (case sd1 => exact HC0.out); rintro e_ w12_ ⟨vv0_, rfl, ho0_, ho1_, hb⟩; refine ⟨_, rfl, ?_⟩; have HLt185 := Aside0.mk ho1_; obtain ⟨gb1, ev_, hbx_, hge_⟩ := PtrTo.yes ho0_; subst ev_; have n_ := Aside0.mk (HM.out.addPtr hb hbx_ hge_); clear HM; have HM := n_; clear n_; clear hbx_ hge_; clear hb ho0_ ho1_))
          go_quiet ((go_at_call 49; refine calls_quiet (v := .int .i64 t187) ?_; exact (impl_game_all.calls _ t184 t185 t187 _ HLt185.out (blk_below (HM.out.box 0 rfl) (pw_below_drewN (Below.refl _ _) _)) A5_.out)))
          generalize hw : World.drewN _ _ = w14_
          have n_ := Aside0.mk (HM.out.step (show Below _ _ w14_ from hw ▸ pw_below_drewN (Below.refl _ _) _))
          clear HM hw
          have HM := n_
          clear n_
          go_wp2
          go_ret2
          exact ⟨_, by first | rfl | (simp; done) | (simp [*]; done), PtrTo.mk (HM.out.box 0 rfl) (HM.out.boxGe 0 rfl), HLt185.out, HM.out.below⟩
      · rw [if_neg c4_] at H
        have c4_b0 : decide (0 ≤ a2) = false := decide_eq_false c4_
        clear c4_
        simp only [Option.some.injEq, Prod.mk.injEq] at H
        obtain ⟨rfl, rfl, rfl, rfl⟩ := H
        go_enter Try.func33, Try.ntmps33
        go_wp2_with (first | ((with_reducible refine gate_callee (f := 48) rfl ?_); (with_reducible refine gate_dst (N := 13) rfl ?_); refine goesL_ (some 13) rfl rfl Try.func48 (by kernel_rfl) rfl #[.slice A0 l0.length c0, .int .i64 a1] rfl (by (try simp only [List.map_toArray, List.map_cons, List.map_nil]); first | done | rfl | (simp only [List.length_drop, List.length_take]; rfl)) ?_; (with_reducible refine (impl_gameOf.calls k _ _ l0 a1 true t184 t185 true _ ?sd0 ?sd1 A1_.out).mono ?_); (case sd0 => exact (Kd.C_below HR0.out HM.out.below)); (case sd1 => exact HC0.out); rintro e_ w15_ ⟨vv0_, rfl, ho0_, ho1_, hb⟩; refine ⟨_, rfl, ?_⟩; have HLt185 := Aside0.mk ho1_; obtain ⟨gb1, ev_, hbx_, hge_⟩ := PtrTo.yes ho0_; subst ev_; have n_ := Aside0.mk (HM.out.addPtr hb hbx_ hge_); clear HM; have HM := n_; clear n_; clear hbx_ hge_; clear hb ho0_ ho1_))
        go_quiet (fail)
        generalize hw : World.drewN _ _ = w16_
        have n_ := Aside0.mk (HM.out.step (show Below _ _ w16_ from hw ▸ pw_below_drewN (Below.refl _ _) _))
        clear HM hw
        have HM := n_
        clear n_
        go_wp2
        go_ret2
        exact ⟨_, by first | rfl | (simp; done) | (simp [*]; done), PtrTo.mk (HM.out.box 0 rfl) (HM.out.boxGe 0 rfl), HLt185.out, HM.out.below⟩
    · replace c3_ := Bool.eq_false_iff.mpr c3_
      subst c3_
      have H1 : (some (true, t184, t185, false)) = some (r1, r2, r3, r4) := by rw [if_neg (show ¬ (false = true) by decide)] at H; exact H
      clear H
      have H := H1
      clear H1
      simp only [Option.some.injEq, Prod.mk.injEq] at H
      obtain ⟨rfl, rfl, rfl, rfl⟩ := H
      go_enter Try.func33, Try.ntmps33
      go_wp2_with (first | ((with_reducible refine gate_callee (f := 48) rfl ?_); (with_reducible refine gate_dst (N := 13) rfl ?_); refine goesL_ (some 13) rfl rfl Try.func48 (by kernel_rfl) rfl #[.slice A0 l0.length c0, .int .i64 a1] rfl (by (try simp only [List.map_toArray, List.map_cons, List.map_nil]); first | done | rfl | (simp only [List.length_drop, List.length_take]; rfl)) ?_; (with_reducible refine (impl_gameOf.calls k _ _ l0 a1 true t184 t185 false _ ?sd0 ?sd1 A1_.out).mono ?_); (case sd0 => exact (Kd.C_below HR0.out HM.out.below)); (case sd1 => exact HC0.out); rintro e_ w17_ ⟨vv0_, rfl, ho0_, ho1_, hb⟩; refine ⟨_, rfl, ?_⟩; have HLt185 := Aside0.mk ho1_; obtain ⟨gb1, ev_, hbx_, hge_⟩ := PtrTo.yes ho0_; subst ev_; have n_ := Aside0.mk (HM.out.addPtr hb hbx_ hge_); clear HM; have HM := n_; clear n_; clear hbx_ hge_; clear hb ho0_ ho1_))
      go_quiet (fail)
      generalize hw : World.drewN _ _ = w18_
      have n_ := Aside0.mk (HM.out.step (show Below _ _ w18_ from hw ▸ pw_below_drewN (Below.refl _ _) _))
      clear HM hw
      have HM := n_
      clear n_
      go_wp2
      go_ret2
      exact ⟨_, by first | rfl | (simp; done) | (simp [*]; done), PtrTo.mk (HM.out.box 0 rfl) (HM.out.boxGe 0 rfl), HLt185.out, HM.out.below⟩
  · replace c2_ := Bool.eq_false_iff.mpr c2_
    subst c2_
    have H1 : (if t186 = true then (if a2 ≥ 0 then (none) else (some (false, 0, List.replicate 64 false, false))) else (some (false, 0, List.replicate 64 false, false))) = some (r1, r2, r3, r4) := by rw [if_neg (show ¬ (false = true) by decide)] at H; exact H
    clear H
    have H := H1
    clear H1
    by_cases c19_ : t186 = true
    · subst c19_
      have H1 : (if a2 ≥ 0 then (none) else (some (false, 0, List.replicate 64 false, false))) = some (r1, r2, r3, r4) := by rw [if_pos rfl] at H; exact H
      clear H
      have H := H1
      clear H1
      by_cases c20_ : a2 ≥ 0
      · rw [if_pos c20_] at H
        have c20_b0 : decide (0 ≤ a2) = true := decide_eq_true c20_
        clear c20_
        exact absurd H (by simp)
      · rw [if_neg c20_] at H
        have c20_b0 : decide (0 ≤ a2) = false := decide_eq_false c20_
        clear c20_
        simp only [Option.some.injEq, Prod.mk.injEq] at H
        obtain ⟨rfl, rfl, rfl, rfl⟩ := H
        go_enter Try.func33, Try.ntmps33
        go_wp2_with (first | ((with_reducible refine gate_callee (f := 48) rfl ?_); (with_reducible refine gate_dst (N := 13) rfl ?_); refine goesL_ (some 13) rfl rfl Try.func48 (by kernel_rfl) rfl #[.slice A0 l0.length c0, .int .i64 a1] rfl (by (try simp only [List.map_toArray, List.map_cons, List.map_nil]); first | done | rfl | (simp only [List.length_drop, List.length_take]; rfl)) ?_; (with_reducible refine (impl_gameOf.calls k _ _ l0 a1 false t184 t185 true _ ?sd0 ?sd1 A1_.out).mono ?_); (case sd0 => exact (Kd.C_below HR0.out HM.out.below)); (case sd1 => exact HC0.out); rintro e_ w21_ ⟨vv0_, rfl, ho0_, ho1_, hb⟩; refine ⟨_, rfl, ?_⟩; have HLt185 := Aside0.mk ho1_; have ev_ := PtrTo.no ho0_; subst ev_; have n_ := Aside0.mk (HM.out.step hb); clear HM; have HM := n_; clear n_; clear hb ho0_ ho1_))
        go_quiet (fail)
        generalize hw : World.drewN _ _ = w22_
        have n_ := Aside0.mk (HM.out.step (show Below _ _ w22_ from hw ▸ pw_below_drewN (Below.refl _ _) _))
        clear HM hw
        have HM := n_
        clear n_
        go_wp2
        go_ret2
        exact ⟨_, by first | rfl | (simp; done) | (simp [*]; done), PtrTo.nil, (List.length_replicate), HM.out.below⟩
    · replace c19_ := Bool.eq_false_iff.mpr c19_
      subst c19_
      have H1 : (some (false, 0, List.replicate 64 false, false)) = some (r1, r2, r3, r4) := by rw [if_neg (show ¬ (false = true) by decide)] at H; exact H
      clear H
      have H := H1
      clear H1
      simp only [Option.some.injEq, Prod.mk.injEq] at H
      obtain ⟨rfl, rfl, rfl, rfl⟩ := H
      go_enter Try.func33, Try.ntmps33
      go_wp2_with (first | ((with_reducible refine gate_callee (f := 48) rfl ?_); (with_reducible refine gate_dst (N := 13) rfl ?_); refine goesL_ (some 13) rfl rfl Try.func48 (by kernel_rfl) rfl #[.slice A0 l0.length c0, .int .i64 a1] rfl (by (try simp only [List.map_toArray, List.map_cons, List.map_nil]); first | done | rfl | (simp only [List.length_drop, List.length_take]; rfl)) ?_; (with_reducible refine (impl_gameOf.calls k _ _ l0 a1 false t184 t185 false _ ?sd0 ?sd1 A1_.out).mono ?_); (case sd0 => exact (Kd.C_below HR0.out HM.out.below)); (case sd1 => exact HC0.out); rintro e_ w23_ ⟨vv0_, rfl, ho0_, ho1_, hb⟩; refine ⟨_, rfl, ?_⟩; have HLt185 := Aside0.mk ho1_; have ev_ := PtrTo.no ho0_; subst ev_; have n_ := Aside0.mk (HM.out.step hb); clear HM; have HM := n_; clear n_; clear hb ho0_ ho1_))
      go_quiet (fail)
      generalize hw : World.drewN _ _ = w24_
      have n_ := Aside0.mk (HM.out.step (show Below _ _ w24_ from hw ▸ pw_below_drewN (Below.refl _ _) _))
      clear HM hw
      have HM := n_
      clear n_
      go_wp2
      go_ret2
      exact ⟨_, by first | rfl | (simp; done) | (simp [*]; done), PtrTo.nil, (List.length_replicate), HM.out.below⟩

/-! ### impl_PlayNails: function 12 -/
def impl_PlayNails.l0 : Nat → (Int) → (Int) → (Int) → (List Int) → (Int) → (Int) → (List Bool) → Option (Int × Int × Bool)
  | 0, _, _, _, _, _, _, _ => none
  | k + 1, x1, x2, x13, x25, x26, x27, m1_1 => if x27 < x26 then (if 0 ≤ x27 then (if x27 < (x25.length : Int) then (if (rd x25 x27) < 1 then (some (x2, x13, true)) else (if (rd x25 x27) > x1 then (some (x2, x13, true)) else ((impl_nailBit.f (rd x25 x27)).bind fun t194 => (if (Go.bits .and .i64 x2 t194) = 0 then (if 0 ≤ x2 then (if x2 < 64 then (if rdOf false m1_1 x2 = true then (some (x2, x13, true)) else ((impl_nailBit.f (rd x25 x27)).bind fun t196 => (impl_PlayNails.l0 k x1 (Go.bits .or .i64 x2 t196) (wrap64 (x13 + 1)) x25 x26 (wrap64 (x27 + 1)) m1_1))) else (none)) else (none)) else (some (x2, x13, true)))))) else (none)) else (none)) else (some (x2, x13, true))
def impl_PlayNails.f (k : Nat) (l0 : List Int) (a1 : Int) (a2 : Int) (l3 : List Int) : Option (Int × Int × Bool) := (impl_gameAt.f k l0 a1 a2).bind fun bt189 => (if bt189.1 = true then (if bt189.2.2.2 = true then (impl_PlayNails.l0 k a1 a2 0 l3 (l3.length : Int) 0 bt189.2.2.1) else (some (0, 0, false))) else (if bt189.2.2.2 = true then (none) else (some (0, 0, false))))
set_option maxHeartbeats 8000000 in
set_option maxRecDepth 100000 in
theorem impl_PlayNails.calls (k : Nat) (A0 : Option Addr) (c0 : Nat) (l0 : List Int) (a1 : Int) (a2 : Int) (A3 : Option Addr) (c3 : Nat) (l3 : List Int) (r1 : Int) (r2 : Int) (r3 : Bool) (w : World) (hr0 : Kd.C (Kd.int .i64) w A0 l0.length l0) (hc0 : l0.length ≤ c0) (hr3 : Kd.C (Kd.int .i64) w A3 l3.length l3) (hc3 : l3.length ≤ c3) (h : impl_PlayNails.f k l0 a1 a2 l3 = some (r1, r2, r3)) :
    Calls Try.prog 12 #[.slice A0 l0.length c0, .int .i64 a1, .int .i64 a2, .slice A3 l3.length c3] w fun e w' => e = .returned (.tuple #[.int .i64 r1, .int .i64 r2, .bool r3]) ∧ Below w.heap.size w w' := by
  have HR0 := Aside0.mk hr0
  have HC0 := Aside0.mk hc0
  clear hr0 hc0
  have HR3 := Aside0.mk hr3
  have HC3 := Aside0.mk hc3
  clear hr3 hc3
  have hu22 := Try.underlying22
  have hu44 := Try.underlying44
  have hu46 := Try.underlying46
  have HM := Aside0.mk (MS.start w)
  have H : ((impl_gameAt.f k l0 a1 a2).bind fun bt189 => (if bt189.1 = true then (if bt189.2.2.2 = true then (impl_PlayNails.l0 k a1 a2 0 l3 (l3.length : Int) 0 bt189.2.2.1) else (some (0, 0, false))) else (if bt189.2.2.2 = true then (none) else (some (0, 0, false))))) = some (r1, r2, r3) := h
  clear h
  replace H := Option.bind_eq_some_iff.mp H
  obtain ⟨⟨t189, t190, t191, t192⟩, A1_0, H⟩ := H
  replace H : (if t189 = true then (if t192 = true then (impl_PlayNails.l0 k a1 a2 0 l3 (l3.length : Int) 0 t191) else (some (0, 0, false))) else (if t192 = true then (none) else (some (0, 0, false)))) = some (r1, r2, r3) := H
  have A1_ := Aside0.mk A1_0
  clear A1_0
  by_cases c2_ : t189 = true
  · subst c2_
    have H1 : (if t192 = true then (impl_PlayNails.l0 k a1 a2 0 l3 (l3.length : Int) 0 t191) else (some (0, 0, false))) = some (r1, r2, r3) := by rw [if_pos rfl] at H; exact H
    clear H
    have H := H1
    clear H1
    by_cases c3_ : t192 = true
    · subst c3_
      have H1 : (impl_PlayNails.l0 k a1 a2 0 l3 (l3.length : Int) 0 t191) = some (r1, r2, r3) := by rw [if_pos rfl] at H; exact H
      clear H
      have H := H1
      clear H1
      have H' := Aside0.mk H
      clear H
      go_enter Try.func12, Try.ntmps12
      go_wp2_with (first | ((with_reducible refine gate_callee (f := 33) rfl ?_); (with_reducible refine gate_dst (N := 20) rfl ?_); refine goesL_ (some 20) rfl rfl Try.func33 (by kernel_rfl) rfl #[.slice A0 l0.length c0, .int .i64 a1, .int .i64 a2] rfl (by (try simp only [List.map_toArray, List.map_cons, List.map_nil]); first | done | rfl | (simp only [List.length_drop, List.length_take]; rfl)) ?_; (with_reducible refine (impl_gameAt.calls k _ _ l0 a1 a2 true t190 t191 true _ ?sd0 ?sd1 A1_.out).mono ?_); (case sd0 => exact (Kd.C_below HR0.out HM.out.below)); (case sd1 => exact HC0.out); rintro e_ w4_ ⟨vv0_, rfl, ho0_, ho1_, hb⟩; refine ⟨_, rfl, ?_⟩; have HLt191 := Aside0.mk ho1_; obtain ⟨gb1, ev_, hbx_, hge_⟩ := PtrTo.yes ho0_; subst ev_; have n_ := Aside0.mk (HM.out.addPtr hb hbx_ hge_); clear HM; have HM := n_; clear n_; clear hbx_ hge_; clear hb ho0_ ho1_))
      go_loopg [2, 13, 27] k (fun kq v2 v13 v27 w' => ∃ (x2_5 : Int) (x13_5 : Int) (x27_5 : Int), v2 = .int .i64 x2_5 ∧ v13 = .int .i64 x13_5 ∧ v27 = .int .i64 x27_5 ∧ Aside0 (impl_PlayNails.l0 kq a1 x2_5 x13_5 l3 (l3.length : Int) x27_5 t191 = some (r1, r2, r3)) ∧ Aside0 (kq ≤ k) ∧ Aside0 (MS w w' [.box gb1 46 (#[.int .i64 t190] ++ (bcs t191))]))
      case atStart => exact ⟨(a2), (0), (0), (by first | rfl | (simp; done) | (simp [*]; done)), (by first | rfl | (simp; done) | (simp [*]; done)), (by first | rfl | (simp; done) | (simp [*]; done)), H', ⟨Nat.le_refl _⟩, HM⟩
      case round =>
        clear H'
        clear HM
        obtain ⟨x2_5, x13_5, x27_5, rfl, rfl, rfl, HA, HK6_, HM⟩ := hrel
        cases gk with
        | zero => exact absurd HA.out (by simp [impl_PlayNails.l0])
        | succ k7_ =>
          have H := HA.out
          clear HA
          simp only [impl_PlayNails.l0] at H
          by_cases c8_ : x27_5 < (l3.length : Int)
          · rw [if_pos c8_] at H
            have c8_b0 : decide (x27_5 < (l3.length : Int)) = true := decide_eq_true c8_
            clear c8_
            by_cases c9_ : 0 ≤ x27_5
            · rw [if_pos c9_] at H
              have c9_b0 : decide (0 ≤ x27_5) = true := decide_eq_true c9_
              clear c9_
              by_cases c10_ : x27_5 < (l3.length : Int)
              · rw [if_pos c10_] at H
                have c10_b0 : decide (x27_5 < (l3.length : Int)) = true := decide_eq_true c10_
                clear c10_
                by_cases c11_ : (rd l3 x27_5) < 1
                · rw [if_pos c11_] at H
                  have c11_b0 : decide ((rd l3 x27_5) < 1) = true := decide_eq_true c11_
                  clear c11_
                  simp only [Option.some.injEq, Prod.mk.injEq] at H
                  obtain ⟨rfl, rfl, rfl⟩ := H
                  have p193 : 0 ≤ (x27_5 : Int) := of_decide_eq_true (by first | (with_reducible assumption) | assumption)
                  have q193 : (x27_5 : Int) < (l3.length : Int) := of_decide_eq_true (by first | (with_reducible assumption) | assumption)
                  obtain ⟨ad193, e193, hx193⟩ := Kd.at_int HR3.out x27_5 p193 q193
                  cases e193
                  replace hx193 := (HM.out.below.cell (World.block_lt_of_cell? w _ hx193)).trans hx193
                  replace p193 := eq_true p193
                  replace q193 := eq_true q193
                  go_wp2
                  go_ret3
                  exact ⟨by first | rfl | (simp; done) | (simp [*]; done), HM.out.below⟩
                · rw [if_neg c11_] at H
                  have c11_b0 : decide ((rd l3 x27_5) < 1) = false := decide_eq_false c11_
                  clear c11_
                  by_cases c12_ : (rd l3 x27_5) > a1
                  · rw [if_pos c12_] at H
                    have c12_b0 : decide (a1 < (rd l3 x27_5)) = true := decide_eq_true c12_
                    clear c12_
                    simp only [Option.some.injEq, Prod.mk.injEq] at H
                    obtain ⟨rfl, rfl, rfl⟩ := H
                    have p193 : 0 ≤ (x27_5 : Int) := of_decide_eq_true (by first | (with_reducible assumption) | assumption)
                    have q193 : (x27_5 : Int) < (l3.length : Int) := of_decide_eq_true (by first | (with_reducible assumption) | assumption)
                    obtain ⟨ad193, e193, hx193⟩ := Kd.at_int HR3.out x27_5 p193 q193
                    cases e193
                    replace hx193 := (HM.out.below.cell (World.block_lt_of_cell? w _ hx193)).trans hx193
                    replace p193 := eq_true p193
                    replace q193 := eq_true q193
                    go_wp2
                    go_ret3
                    exact ⟨by first | rfl | (simp; done) | (simp [*]; done), HM.out.below⟩
                  · rw [if_neg c12_] at H
                    have c12_b0 : decide (a1 < (rd l3 x27_5)) = false := decide_eq_false c12_
                    clear c12_
                    replace H := Option.bind_eq_some_iff.mp H
                    obtain ⟨t194, A13_0, H⟩ := H
                    replace H : (if (Go.bits .and .i64 x2_5 t194) = 0 then (if 0 ≤ x2_5 then (if x2_5 < 64 then (if rdOf false t191 x2_5 = true then (some (x2_5, x13_5, true)) else ((impl_nailBit.f (rd l3 x27_5)).bind fun t196 => (impl_PlayNails.l0 k7_ a1 (Go.bits .or .i64 x2_5 t196) (wrap64 (x13_5 + 1)) l3 (l3.length : Int) (wrap64 (x27_5 + 1)) t191))) else (none)) else (none)) else (some (x2_5, x13_5, true))) = some (r1, r2, r3) := H
                    have A13_ := Aside0.mk A13_0
                    clear A13_0
                    by_cases c14_ : (Go.bits .and .i64 x2_5 t194) = 0
                    · rw [if_pos c14_] at H
                      have c14_b0 : ((Go.bits .and .i64 x2_5 t194) == 0) = true := beq_iff_eq.mpr c14_
                      have c14_b1 : ((Go.bits .and .i64 x2_5 t194) != 0) = false := bne_eq_false_iff_eq.mpr c14_
                      clear c14_
                      by_cases c15_ : 0 ≤ x2_5
                      · rw [if_pos c15_] at H
                        have c15_b0 : decide (0 ≤ x2_5) = true := decide_eq_true c15_
                        clear c15_
                        by_cases c16_ : x2_5 < 64
                        · rw [if_pos c16_] at H
                          have c16_b0 : decide (x2_5 < 64) = true := decide_eq_true c16_
                          clear c16_
                          by_cases c17_ : rdOf false t191 x2_5 = true
                          · rw [if_pos c17_] at H
                            have c17_b0 : rdOf false t191 x2_5 = true := c17_
                            clear c17_
                            simp only [Option.some.injEq, Prod.mk.injEq] at H
                            obtain ⟨rfl, rfl, rfl⟩ := H
                            have p193 : 0 ≤ (x27_5 : Int) := of_decide_eq_true (by first | (with_reducible assumption) | assumption)
                            have q193 : (x27_5 : Int) < (l3.length : Int) := of_decide_eq_true (by first | (with_reducible assumption) | assumption)
                            obtain ⟨ad193, e193, hx193⟩ := Kd.at_int HR3.out x27_5 p193 q193
                            cases e193
                            replace hx193 := (HM.out.below.cell (World.block_lt_of_cell? w _ hx193)).trans hx193
                            replace p193 := eq_true p193
                            replace q193 := eq_true q193
                            go_wp2_with (first | (go_at_call 34; (refine calls_of_args (args' := #[.int .i64 (rd l3 x27_5)]) (by first | done | rfl) ?_); (with_reducible refine (impl_nailBit.calls (rd l3 x27_5) t194 _  A13_.out).mono ?_); rintro e_ w18_ ⟨rfl, hd_⟩; have hb := hd_.below; clear hd_; have n_ := Aside0.mk (HM.out.step hb); clear HM; have HM := n_; clear n_; clear hb; have p195 : 0 ≤ (x2_5 : Int) := of_decide_eq_true (by first | (with_reducible assumption) | assumption); have q195 : (x2_5 : Int) < 64 := of_decide_eq_true (by first | (with_reducible assumption) | assumption); have hx195 := fcellB (HM.out.box 0 rfl) 1 rfl x2_5 p195 (by have := HLt191.out; omega); replace p195 := eq_true p195; replace q195 := eq_true q195))
                            go_ret3
                            exact ⟨by first | rfl | (simp; done) | (simp [*]; done), HM.out.below⟩
                          · rw [if_neg c17_] at H
                            have c17_b0 : rdOf false t191 x2_5 = false := by simpa using c17_
                            clear c17_
                            replace H := Option.bind_eq_some_iff.mp H
                            obtain ⟨t196, A19_0, H⟩ := H
                            replace H : (impl_PlayNails.l0 k7_ a1 (Go.bits .or .i64 x2_5 t196) (wrap64 (x13_5 + 1)) l3 (l3.length : Int) (wrap64 (x27_5 + 1)) t191) = some (r1, r2, r3) := H
                            have A19_ := Aside0.mk A19_0
                            clear A19_0
                            have H' := Aside0.mk H
                            clear H
                            have p193 : 0 ≤ (x27_5 : Int) := of_decide_eq_true (by first | (with_reducible assumption) | assumption)
                            have q193 : (x27_5 : Int) < (l3.length : Int) := of_decide_eq_true (by first | (with_reducible assumption) | assumption)
                            obtain ⟨ad193, e193, hx193⟩ := Kd.at_int HR3.out x27_5 p193 q193
                            cases e193
                            replace hx193 := (HM.out.below.cell (World.block_lt_of_cell? w _ hx193)).trans hx193
                            replace p193 := eq_true p193
                            replace q193 := eq_true q193
                            go_wp2_with (first | (go_at_call 34; (refine calls_of_args (args' := #[.int .i64 (rd l3 x27_5)]) (by first | done | rfl) ?_); (with_reducible refine (impl_nailBit.calls (rd l3 x27_5) t194 _  A13_.out).mono ?_); rintro e_ w20_ ⟨rfl, hd_⟩; have hb := hd_.below; clear hd_; have n_ := Aside0.mk (HM.out.step hb); clear HM; have HM := n_; clear n_; clear hb; have p195 : 0 ≤ (x2_5 : Int) := of_decide_eq_true (by first | (with_reducible assumption) | assumption); have q195 : (x2_5 : Int) < 64 := of_decide_eq_true (by first | (with_reducible assumption) | assumption); have hx195 := fcellB (HM.out.box 0 rfl) 1 rfl x2_5 p195 (by have := HLt191.out; omega); replace p195 := eq_true p195; replace q195 := eq_true q195) | ((with_reducible refine gate_callee (f := 34) rfl ?_); (with_reducible refine gate_dst (N := 55) rfl ?_); refine goesL_ (some 55) rfl rfl Try.func34 (by kernel_rfl) rfl #[.int .i64 (rd l3 x27_5)] rfl (by (try simp only [List.map_toArray, List.map_cons, List.map_nil]); first | done | rfl | (simp only [List.length_drop, List.length_take]; rfl)) ?_; (with_reducible refine (impl_nailBit.calls (rd l3 x27_5) t196 _  A19_.out).mono ?_); rintro e_ w21_ ⟨rfl, hd_⟩; refine ⟨_, rfl, ?_⟩; have hb := hd_.below; clear hd_; have n_ := Aside0.mk (HM.out.step hb); clear HM; have HM := n_; clear n_; clear hb))
                            go_roundg k7_
                            case measure => have hHK6__ := HK6_.out; omega
                            case rel => exact ⟨(Go.bits .or .i64 x2_5 t196), (wrap64 (x13_5 + 1)), (wrap64 (x27_5 + 1)), (by first | rfl | (simp; done) | (simp [*]; done)), (by first | rfl | (simp; done) | (simp [*]; done)), (by first | rfl | (simp; done) | (simp [*]; done)), H', ⟨by have hHK6__ := HK6_.out; omega⟩, HM⟩
                        · rw [if_neg c16_] at H
                          have c16_b0 : decide (x2_5 < 64) = false := decide_eq_false c16_
                          clear c16_
                          exact absurd H (by simp)
                      · rw [if_neg c15_] at H
                        have c15_b0 : decide (0 ≤ x2_5) = false := decide_eq_false c15_
                        clear c15_
                        exact absurd H (by simp)
                    · rw [if_neg c14_] at H
                      have c14_b0 : ((Go.bits .and .i64 x2_5 t194) == 0) = false := beq_eq_false_iff_ne.mpr c14_
                      have c14_b1 : ((Go.bits .and .i64 x2_5 t194) != 0) = true := bne_iff_ne.mpr c14_
                      clear c14_
                      simp only [Option.some.injEq, Prod.mk.injEq] at H
                      obtain ⟨rfl, rfl, rfl⟩ := H
                      have p193 : 0 ≤ (x27_5 : Int) := of_decide_eq_true (by first | (with_reducible assumption) | assumption)
                      have q193 : (x27_5 : Int) < (l3.length : Int) := of_decide_eq_true (by first | (with_reducible assumption) | assumption)
                      obtain ⟨ad193, e193, hx193⟩ := Kd.at_int HR3.out x27_5 p193 q193
                      cases e193
                      replace hx193 := (HM.out.below.cell (World.block_lt_of_cell? w _ hx193)).trans hx193
                      replace p193 := eq_true p193
                      replace q193 := eq_true q193
                      go_wp2_with (first | (go_at_call 34; (refine calls_of_args (args' := #[.int .i64 (rd l3 x27_5)]) (by first | done | rfl) ?_); (with_reducible refine (impl_nailBit.calls (rd l3 x27_5) t194 _  A13_.out).mono ?_); rintro e_ w22_ ⟨rfl, hd_⟩; have hb := hd_.below; clear hd_; have n_ := Aside0.mk (HM.out.step hb); clear HM; have HM := n_; clear n_; clear hb))
                      go_ret3
                      exact ⟨by first | rfl | (simp; done) | (simp [*]; done), HM.out.below⟩
              · rw [if_neg c10_] at H
                have c10_b0 : decide (x27_5 < (l3.length : Int)) = false := decide_eq_false c10_
                clear c10_
                exact absurd H (by simp)
            · rw [if_neg c9_] at H
              have c9_b0 : decide (0 ≤ x27_5) = false := decide_eq_false c9_
              clear c9_
              exact absurd H (by simp)
          · rw [if_neg c8_] at H
            have c8_b0 : decide (x27_5 < (l3.length : Int)) = false := decide_eq_false c8_
            clear c8_
            simp only [Option.some.injEq, Prod.mk.injEq] at H
            obtain ⟨rfl, rfl, rfl⟩ := H
            go_wp2
            go_ret3
            exact ⟨by first | rfl | (simp; done) | (simp [*]; done), HM.out.below⟩
    · replace c3_ := Bool.eq_false_iff.mpr c3_
      subst c3_
      have H1 : (some (0, 0, false)) = some (r1, r2, r3) := by rw [if_neg (show ¬ (false = true) by decide)] at H; exact H
      clear H
      have H := H1
      clear H1
      simp only [Option.some.injEq, Prod.mk.injEq] at H
      obtain ⟨rfl, rfl, rfl⟩ := H
      go_enter Try.func12, Try.ntmps12
      go_wp2_with (first | ((with_reducible refine gate_callee (f := 33) rfl ?_); (with_reducible refine gate_dst (N := 20) rfl ?_); refine goesL_ (some 20) rfl rfl Try.func33 (by kernel_rfl) rfl #[.slice A0 l0.length c0, .int .i64 a1, .int .i64 a2] rfl (by (try simp only [List.map_toArray, List.map_cons, List.map_nil]); first | done | rfl | (simp only [List.length_drop, List.length_take]; rfl)) ?_; (with_reducible refine (impl_gameAt.calls k _ _ l0 a1 a2 true t190 t191 false _ ?sd0 ?sd1 A1_.out).mono ?_); (case sd0 => exact (Kd.C_below HR0.out HM.out.below)); (case sd1 => exact HC0.out); rintro e_ w23_ ⟨vv0_, rfl, ho0_, ho1_, hb⟩; refine ⟨_, rfl, ?_⟩; have HLt191 := Aside0.mk ho1_; obtain ⟨gb1, ev_, hbx_, hge_⟩ := PtrTo.yes ho0_; subst ev_; have n_ := Aside0.mk (HM.out.addPtr hb hbx_ hge_); clear HM; have HM := n_; clear n_; clear hbx_ hge_; clear hb ho0_ ho1_))
      go_ret3
      exact ⟨by first | rfl | (simp; done) | (simp [*]; done), HM.out.below⟩
  · replace c2_ := Bool.eq_false_iff.mpr c2_
    subst c2_
    have H1 : (if t192 = true then (none) else (some (0, 0, false))) = some (r1, r2, r3) := by rw [if_neg (show ¬ (false = true) by decide)] at H; exact H
    clear H
    have H := H1
    clear H1
    by_cases c24_ : t192 = true
    · subst c24_
      have H1 : (none) = some (r1, r2, r3) := by rw [if_pos rfl] at H; exact H
      clear H
      have H := H1
      clear H1
      exact absurd H (by simp)
    · replace c24_ := Bool.eq_false_iff.mpr c24_
      subst c24_
      have H1 : (some (0, 0, false)) = some (r1, r2, r3) := by rw [if_neg (show ¬ (false = true) by decide)] at H; exact H
      clear H
      have H := H1
      clear H1
      simp only [Option.some.injEq, Prod.mk.injEq] at H
      obtain ⟨rfl, rfl, rfl⟩ := H
      go_enter Try.func12, Try.ntmps12
      go_wp2_with (first | ((with_reducible refine gate_callee (f := 33) rfl ?_); (with_reducible refine gate_dst (N := 20) rfl ?_); refine goesL_ (some 20) rfl rfl Try.func33 (by kernel_rfl) rfl #[.slice A0 l0.length c0, .int .i64 a1, .int .i64 a2] rfl (by (try simp only [List.map_toArray, List.map_cons, List.map_nil]); first | done | rfl | (simp only [List.length_drop, List.length_take]; rfl)) ?_; (with_reducible refine (impl_gameAt.calls k _ _ l0 a1 a2 false t190 t191 false _ ?sd0 ?sd1 A1_.out).mono ?_); (case sd0 => exact (Kd.C_below HR0.out HM.out.below)); (case sd1 => exact HC0.out); rintro e_ w25_ ⟨vv0_, rfl, ho0_, ho1_, hb⟩; refine ⟨_, rfl, ?_⟩; have HLt191 := Aside0.mk ho1_; have ev_ := PtrTo.no ho0_; subst ev_; have n_ := Aside0.mk (HM.out.step hb); clear HM; have HM := n_; clear n_; clear hb ho0_ ho1_))
      go_ret3
      exact ⟨by first | rfl | (simp; done) | (simp [*]; done), HM.out.below⟩

/-! ### impl_game_drops_1: function 55 -/
def impl_game_drops_1.f (φ45 : Int → List Bool → Int → Option (List Int)) (a0 : Int) (a1_0 : Int) (l1_1 : List Bool) : Option (Bool) := if 0 ≤ a0 then (if a0 < 64 then (if rdOf false l1_1 a0 = true then (some true) else ((φ45 a1_0 l1_1 a0).bind fun t198 => (some ((t198.length : Int) == 0)))) else (none)) else (none)
set_option maxHeartbeats 8000000 in
set_option maxRecDepth 100000 in
theorem impl_game_drops_1.calls (φ45 : Int → List Bool → Int → Option (List Int)) (hφ45 : ∀ (gb1 : Nat) (a0_0 : Int) (l0_1 : List Bool) (a1 : Int) (r : List Int) (w : World) (hl0_1 : l0_1.length = 64) (hq1 : w.heap[gb1]? = some (.cells (#[.int .i64 a0_0] ++ (bcs l0_1)) 46 (0, 0))) (h : φ45 a0_0 l0_1 a1 = some r), Calls Try.prog 45 #[.pointer (some ⟨gb1, 0, none⟩), .int .i64 a1] w fun e w' => ∃ v0_ : Value, e = .returned (v0_) ∧ Kd.R (Kd.int .i64) 3 w' w.heap.size (fun _ => True) v0_ r ∧ Below w.heap.size w w') (a0 : Int) (gb1 : Nat) (gb2 : Nat) (a1_0 : Int) (l1_1 : List Bool) (r : Bool) (w : World) (hl1_1 : l1_1.length = 64) (hq2 : w.heap[gb2]? = some (.cells (#[.int .i64 a1_0] ++ (bcs l1_1)) 46 (0, 0))) (hq1 : w.heap[gb1]? = some (.cells #[.pointer (some ⟨gb2, 0, none⟩)] 40 (0, 0))) (h : impl_game_drops_1.f φ45 a0 a1_0 l1_1 = some r) :
    Calls Try.prog 55 #[.int .i64 a0, .pointer (some ⟨gb1, 0, none⟩)] w fun e w' => e = .returned (.bool r) ∧ Below w.heap.size w w' := by
  have HΦ45 := Aside0.mk hφ45
  clear hφ45
  have HL1_1 := Aside0.mk hl1_1
  clear hl1_1
  have HQ2 := Aside0.mk hq2
  clear hq2
  have HQ1 := Aside0.mk hq1
  clear hq1
  have hu44 := Try.underlying44
  have hu46 := Try.underlying46
  have HM := Aside0.mk (MS.start w)
  have H : (if 0 ≤ a0 then (if a0 < 64 then (if rdOf false l1_1 a0 = true then (some true) else ((φ45 a1_0 l1_1 a0).bind fun t198 => (some ((t198.length : Int) == 0)))) else (none)) else (none)) = some r := h
  clear h
  by_cases c1_ : 0 ≤ a0
  · rw [if_pos c1_] at H
    have c1_b0 : decide (0 ≤ a0) = true := decide_eq_true c1_
    clear c1_
    by_cases c2_ : a0 < 64
    · rw [if_pos c2_] at H
      have c2_b0 : decide (a0 < 64) = true := decide_eq_true c2_
      clear c2_
      by_cases c3_ : rdOf false l1_1 a0 = true
      · rw [if_pos c3_] at H
        have c3_b0 : rdOf false l1_1 a0 = true := c3_
        clear c3_
        obtain rfl := Option.some.inj H
        have hcz4_0 : w.cell? ⟨gb1, 0, none⟩ = some (.pointer (some ⟨gb2, 0, none⟩)) := (blk_cell (blk_below HQ1.out HM.out.below) 0).trans rfl
        have hfz4_0 := blk_frozen (blk_below HQ1.out HM.out.below) 0
        have p197 : 0 ≤ (a0 : Int) := of_decide_eq_true (by first | (with_reducible assumption) | assumption)
        have q197 : (a0 : Int) < 64 := of_decide_eq_true (by first | (with_reducible assumption) | assumption)
        have hx197 := fcellB (blk_below HQ2.out HM.out.below) 1 rfl a0 p197 (by have := HL1_1.out; omega)
        replace p197 := eq_true p197
        replace q197 := eq_true q197
        go_enter Try.func55, Try.ntmps55
        go_wp2
        go_ret
        exact ⟨by first | rfl | (simp; done) | (simp [*]; done), HM.out.below⟩
      · rw [if_neg c3_] at H
        have c3_b0 : rdOf false l1_1 a0 = false := by simpa using c3_
        clear c3_
        replace H := Option.bind_eq_some_iff.mp H
        obtain ⟨t198, A5_0, H⟩ := H
        replace H : (some ((t198.length : Int) == 0)) = some r := H
        have A5_ := Aside0.mk A5_0
        clear A5_0
        obtain rfl := Option.some.inj H
        have hcz6_0 : w.cell? ⟨gb1, 0, none⟩ = some (.pointer (some ⟨gb2, 0, none⟩)) := (blk_cell (blk_below HQ1.out HM.out.below) 0).trans rfl
        have hfz6_0 := blk_frozen (blk_below HQ1.out HM.out.below) 0
        have p197 : 0 ≤ (a0 : Int) := of_decide_eq_true (by first | (with_reducible assumption) | assumption)
        have q197 : (a0 : Int) < 64 := of_decide_eq_true (by first | (with_reducible assumption) | assumption)
        have hx197 := fcellB (blk_below HQ2.out HM.out.below) 1 rfl a0 p197 (by have := HL1_1.out; omega)
        replace p197 := eq_true p197
        replace q197 := eq_true q197
        go_enter Try.func55, Try.ntmps55
        go_wp2_with (first | (go_at_call 45; (refine calls_of_args (args' := #[.pointer (some ⟨gb2, 0, none⟩), .int .i64 a0]) (by first | done | rfl) ?_); (with_reducible refine (HΦ45.out _ a1_0 l1_1 a0 t198 _ ?sd0 ?sd1 A5_.out).mono ?_); (case sd0 => exact HL1_1.out); (case sd1 => exact (blk_below HQ2.out HM.out.below)); rintro e_ w7_ ⟨vv0_, rfl, ho0_, hb⟩; obtain ⟨Ao3_0, co3_0, ev_⟩ := Kd.R_slice ho0_; subst ev_; have n_ := Aside0.mk (HM.out.addR hb ho0_); clear HM; have HM := n_; clear n_; clear hb ho0_))
        go_ret
        exact ⟨by first | rfl | (simp; done) | (simp [*]; done), HM.out.below⟩
    · rw [if_neg c2_] at H
      have c2_b0 : decide (a0 < 64) = false := decide_eq_false c2_
      clear c2_
      exact absurd H (by simp)
  · rw [if_neg c1_] at H
    have c1_b0 : decide (0 ≤ a0) = false := decide_eq_false c1_
    clear c1_
    exact absurd H (by simp)

/-! ### impl_game_in: function 54 -/
def impl_game_in.l0 : Nat → (Int) → (Int) → (List Int) → (Int) → Option (List Int)
  | 0, _, _, _, _ => none
  | k + 1, x1, x6, m2, m1_0 => if x6 ≤ m1_0 then ((impl_nailBit.f x6).bind fun t200 => (if (Go.bits .and .i64 x1 t200) = 0 then (if m2.length < 17592186044416 then (impl_game_in.l0 k x1 (wrap64 (x6 + 1)) (m2 ++ [x6]) m1_0) else (none)) else (impl_game_in.l0 k x1 (wrap64 (x6 + 1)) m2 m1_0))) else (some m2)
def impl_game_in.f (k : Nat) (a0_0 : Int) (l0_1 : List Bool) (a1 : Int) : Option (List Int) := impl_game_in.l0 k a1 1 (([] : List Int)) a0_0
set_option maxHeartbeats 8000000 in
set_option maxRecDepth 100000 in
theorem impl_game_in.calls (k : Nat) (gb1 : Nat) (a0_0 : Int) (l0_1 : List Bool) (a1 : Int) (r : List Int) (w : World) (hl0_1 : l0_1.length = 64) (hq1 : w.heap[gb1]? = some (.cells (#[.int .i64 a0_0] ++ (bcs l0_1)) 46 (0, 0))) (h : impl_game_in.f k a0_0 l0_1 a1 = some r) :
    Calls Try.prog 54 #[.pointer (some ⟨gb1, 0, none⟩), .int .i64 a1] w fun e w' => ∃ v0_ : Value, e = .returned (v0_) ∧ Kd.R (Kd.int .i64) 3 w' w.heap.size (fun _ => True) v0_ r ∧ Below w.heap.size w w' := by
  have HL0_1 := Aside0.mk hl0_1
  clear hl0_1
  have HQ1 := Aside0.mk hq1
  clear hq1
  have hu46 := Try.underlying46
  have HM := Aside0.mk (MS.start w)
  have H : (impl_game_in.l0 k a1 1 (([] : List Int)) a0_0) = some r := h
  clear h
  obtain ⟨y199, hy199⟩ : ∃ y_, y_ = (([] : List Int)) := ⟨_, rfl⟩
  replace H : (impl_game_in.l0 k a1 1 y199 a0_0) = some r := by first | (rw [hy199]; with_reducible exact H) | (have H2_ := (Option.bind_some _ _).symm.trans H; rw [hy199]; with_reducible exact H2_) | (have H2_ := (Option.bind_some _ _).symm.trans H; with_reducible exact H2_) | with_reducible exact H | (rw [hy199]; exact H) | exact H
  have Ny199 := Aside0.mk hy199
  clear hy199
  have H' := Aside0.mk H
  clear H
  go_enter Try.func54, Try.ntmps54
  go_wp2_with (first | ((with_reducible refine gate_dst (N := 7) rfl ?_); refine Kd.R_lit (Kd.int .i64) _ 3 ?hg (N := 7) ?hd (xs := ([] : List Int)) (inner := []) (ok := fun _ => True) (okp := fun _ => True) ?hr ?hp (fun _ hk => hk) trivial (Below.refl _ _) (Nat.le_refl _) (by simp) ?_; (case hd => rfl); (case hg => rfl); (case hr => first | (go_simp; done) | (go_simp; rfl)); (case hp => exact (Reps.none _ _)); intro vv_ w1_ ho hb hg_ hnew_; clear hg_ hnew_; rw [← Ny199.out] at ho; obtain ⟨Ao2_0, co2_0, ev_⟩ := Kd.R_slice ho; subst ev_; have n_ := Aside0.mk (HM.out.addR hb ho); clear HM; have HM := n_; clear n_; clear hb ho))
  go_loopg [5, 6] k (fun kq v5 v6 w' => ∃ (x6_2 : Int) (Am2_2 : Option Addr) (cm2_2 : Nat) (m2_2 : List Int), v6 = .int .i64 x6_2 ∧ v5 = .slice Am2_2 m2_2.length cm2_2 ∧ Aside0 (impl_game_in.l0 kq a1 x6_2 m2_2 a0_0 = some r) ∧ Aside0 (kq ≤ k) ∧ Aside0 (MS w w' [.row 3 (.slice Am2_2 m2_2.length cm2_2) (encs (Value.int .i64) m2_2)]))
  case atStart => exact ⟨(1), (Ao2_0), (co2_0), (y199), (by first | rfl | (simp; done) | (simp [*]; done)), (by first | rfl | (simp; done) | (simp [*]; done)), H', ⟨Nat.le_refl _⟩, HM⟩
  case round =>
    clear H'
    clear HM
    obtain ⟨x6_2, Am2_2, cm2_2, m2_2, rfl, rfl, HA, HK3_, HM⟩ := hrel
    cases gk with
    | zero => exact absurd HA.out (by simp [impl_game_in.l0])
    | succ k4_ =>
      have H := HA.out
      clear HA
      simp only [impl_game_in.l0] at H
      by_cases c5_ : x6_2 ≤ a0_0
      · rw [if_pos c5_] at H
        have c5_b0 : decide (x6_2 ≤ a0_0) = true := decide_eq_true c5_
        clear c5_
        replace H := Option.bind_eq_some_iff.mp H
        obtain ⟨t200, A6_0, H⟩ := H
        replace H : (if (Go.bits .and .i64 a1 t200) = 0 then (if m2_2.length < 17592186044416 then (impl_game_in.l0 k4_ a1 (wrap64 (x6_2 + 1)) (m2_2 ++ [x6_2]) a0_0) else (none)) else (impl_game_in.l0 k4_ a1 (wrap64 (x6_2 + 1)) m2_2 a0_0)) = some r := H
        have A6_ := Aside0.mk A6_0
        clear A6_0
        by_cases c7_ : (Go.bits .and .i64 a1 t200) = 0
        · rw [if_pos c7_] at H
          have c7_b0 : ((Go.bits .and .i64 a1 t200) == 0) = true := beq_iff_eq.mpr c7_
          have c7_b1 : ((Go.bits .and .i64 a1 t200) != 0) = false := bne_eq_false_iff_eq.mpr c7_
          clear c7_
          by_cases c8_ : m2_2.length < 17592186044416
          · rw [if_pos c8_] at H
            have LMc8_ := Aside0.mk c8_
            clear c8_
            obtain ⟨y201, hy201⟩ : ∃ y_, y_ = (m2_2 ++ [x6_2]) := ⟨_, rfl⟩
            replace H : (impl_game_in.l0 k4_ a1 (wrap64 (x6_2 + 1)) y201 a0_0) = some r := by first | (rw [hy201]; with_reducible exact H) | (have H2_ := (Option.bind_some _ _).symm.trans H; rw [hy201]; with_reducible exact H2_) | (have H2_ := (Option.bind_some _ _).symm.trans H; with_reducible exact H2_) | with_reducible exact H | (rw [hy201]; exact H) | exact H
            have Ny201 := Aside0.mk hy201
            clear hy201
            have H' := Aside0.mk H
            clear H
            have hcz9_ : wr.cell? ⟨gb1, 0, none⟩ = some (.int .i64 a0_0) := fcell0 (blk_below HQ1.out HM.out.below)
            go_wp2_with (first | ((with_reducible refine gate_callee (f := 34) rfl ?_); (with_reducible refine gate_dst (N := 18) rfl ?_); refine goesL_ (some 18) rfl rfl Try.func34 (by kernel_rfl) rfl #[.int .i64 x6_2] rfl (by (try simp only [List.map_toArray, List.map_cons, List.map_nil]); first | done | rfl | (simp only [List.length_drop, List.length_take]; rfl)) ?_; (with_reducible refine (impl_nailBit.calls x6_2 t200 _  A6_.out).mono ?_); rintro e_ w10_ ⟨rfl, hd_⟩; refine ⟨_, rfl, ?_⟩; have hb := hd_.below; clear hd_; have n_ := Aside0.mk (HM.out.step hb); clear HM; have HM := n_; clear n_; clear hb) | ((with_reducible refine gate_builtin (b := .append) (xs := #[.tmp 21, .tmp 23]) rfl ?_); at_builtin; refine Kd.R_append (Kd.int .i64) (w0 := w) w.heap.size rfl (.tmp 21) (.tmp 23) 22 3 (.int .i64 0) 8 rfl Try.underlying22 info3 rfl (by decide) (by omega) (.slice Am2_2 m2_2.length cm2_2) m2_2 x6_2 [.int .i64 x6_2] (fun _ => True) (fun _ => False) rfl rfl ?aP (fun _ hk => hk.elim) ?aF ?aO ?aB ?aS ?aL ?_; (case aP => exact rfl); (case aB => exact HM.out.below); (case aF => exact (fun _ _ => trivial)); (case aO => exact (HM.out.R 0 rfl)); (case aS => exact HM.out.size); (case aL => have := LMc8_.out; omega); intro vv_ w11_ ho hb hg hat; rw [← Ny201.out] at ho; have n_ := Aside0.mk (HM.out.grow 0 rfl ho hb hg hat); clear HM; have HM := n_; clear n_; obtain ⟨Ao2_y201, co2_y201, ev_⟩ := Kd.R_slice ho; subst ev_; clear ho hb hg hat; have n_ : Aside0 (MS w w11_ [.row 3 (.slice Ao2_y201 y201.length co2_y201) (encs (Value.int .i64) y201)]) := ⟨HM.out⟩; clear HM; have HM := n_; clear n_))
            go_roundg k4_
            case measure => have hHK3__ := HK3_.out; omega
            case rel => exact ⟨(wrap64 (x6_2 + 1)), (Ao2_y201), (co2_y201), (y201), (by first | rfl | (simp; done) | (simp [*]; done)), (by first | rfl | (simp; done) | (simp [*]; done)), H', ⟨by have hHK3__ := HK3_.out; omega⟩, HM⟩
          · rw [if_neg c8_] at H
            clear c8_
            exact absurd H (by simp)
        · rw [if_neg c7_] at H
          have c7_b0 : ((Go.bits .and .i64 a1 t200) == 0) = false := beq_eq_false_iff_ne.mpr c7_
          have c7_b1 : ((Go.bits .and .i64 a1 t200) != 0) = true := bne_iff_ne.mpr c7_
          clear c7_
          have H' := Aside0.mk H
          clear H
          have hcz12_ : wr.cell? ⟨gb1, 0, none⟩ = some (.int .i64 a0_0) := fcell0 (blk_below HQ1.out HM.out.below)
          go_wp2_with (first | ((with_reducible refine gate_callee (f := 34) rfl ?_); (with_reducible refine gate_dst (N := 18) rfl ?_); refine goesL_ (some 18) rfl rfl Try.func34 (by kernel_rfl) rfl #[.int .i64 x6_2] rfl (by (try simp only [List.map_toArray, List.map_cons, List.map_nil]); first | done | rfl | (simp only [List.length_drop, List.length_take]; rfl)) ?_; (with_reducible refine (impl_nailBit.calls x6_2 t200 _  A6_.out).mono ?_); rintro e_ w13_ ⟨rfl, hd_⟩; refine ⟨_, rfl, ?_⟩; have hb := hd_.below; clear hd_; have n_ := Aside0.mk (HM.out.step hb); clear HM; have HM := n_; clear n_; clear hb))
          go_roundg k4_
          case measure => have hHK3__ := HK3_.out; omega
          case rel => exact ⟨(wrap64 (x6_2 + 1)), (Am2_2), (cm2_2), (m2_2), (by first | rfl | (simp; done) | (simp [*]; done)), (by first | rfl | (simp; done) | (simp [*]; done)), H', ⟨by have hHK3__ := HK3_.out; omega⟩, HM⟩
      · rw [if_neg c5_] at H
        have c5_b0 : decide (x6_2 ≤ a0_0) = false := decide_eq_false c5_
        clear c5_
        obtain rfl := Option.some.inj H
        have hcz14_ : wr.cell? ⟨gb1, 0, none⟩ = some (.int .i64 a0_0) := fcell0 (blk_below HQ1.out HM.out.below)
        go_wp2
        go_ret
        exact ⟨_, by first | rfl | (simp; done) | (simp [*]; done), HM.out.R 0 rfl, HM.out.below⟩

/-! ### impl_game_that_1: function 64 -/
def impl_game_that_1.f (a0 : Int) (g1 : Int → Option Bool) (a2 : Int) : Option (Bool) := (impl_nailBit.f a0).bind fun t202 => ((g1 (Go.bits .or .i64 a2 t202)).bind fun t203 => (some (!t203)))
set_option maxHeartbeats 8000000 in
set_option maxRecDepth 100000 in
theorem impl_game_that_1.calls (a0 : Int) (gb1 : Nat) (F1 : Value) (g1 : Int → Option Bool) (gb2 : Nat) (a2 : Int) (r : Bool) (w : World) (hf1 : FnB Try.prog w F1 g1) (hq1 : w.heap[gb1]? = some (.cells #[F1] 58 (0, 0))) (hq2 : w.heap[gb2]? = some (.cells #[.int .i64 a2] 3 (0, 0))) (h : impl_game_that_1.f a0 g1 a2 = some r) :
    Calls Try.prog 64 #[.int .i64 a0, .pointer (some ⟨gb1, 0, none⟩), .pointer (some ⟨gb2, 0, none⟩)] w fun e w' => e = .returned (.bool r) ∧ Below w.heap.size w w' := by
  have HF1 := Aside0.mk hf1
  clear hf1
  have HQ1 := Aside0.mk hq1
  clear hq1
  have HQ2 := Aside0.mk hq2
  clear hq2
  have HM := Aside0.mk (MS.start w)
  have H : ((impl_nailBit.f a0).bind fun t202 => ((g1 (Go.bits .or .i64 a2 t202)).bind fun t203 => (some (!t203)))) = some r := h
  clear h
  replace H := Option.bind_eq_some_iff.mp H
  obtain ⟨t202, A1_0, H⟩ := H
  replace H : ((g1 (Go.bits .or .i64 a2 t202)).bind fun t203 => (some (!t203))) = some r := H
  have A1_ := Aside0.mk A1_0
  clear A1_0
  replace H := Option.bind_eq_some_iff.mp H
  obtain ⟨t203, A2_0, H⟩ := H
  replace H : (some (!t203)) = some r := H
  have A2_ := Aside0.mk A2_0
  clear A2_0
  obtain rfl := Option.some.inj H
  go_enter Try.func64, Try.ntmps64
  go_wp2
  have n_ := Aside0.mk (HM.out.step (below_drew1 (Below.refl w.heap.size w)))
  clear HM
  have HM := n_
  clear n_
  refine start_ (n := 8) (S := fun w' => (w'.cell? ⟨gb1, 0, none⟩ = some (F1)) ∧ (w'.cell? ⟨gb2, 0, none⟩ = some (.int .i64 a2))) (ds := []) #[false, false, false, false, false, false, false, false] (by kernel_rfl) rfl rfl (⟨(blk_cell (blk_below HQ1.out HM.out.below) 0).trans rfl, (blk_cell (blk_below HQ2.out HM.out.below) 0).trans rfl⟩) (fun hHeld => ?_)
  generalize w.drew = w3_ at HM hHeld ⊢
  refine take_ (i := 0) (N := some 5) (v := ?_) (a' := ?_) #[true, false, false, false, false, false, false, false] rfl rfl (by kernel_rfl) (fun _ _ _ h => h) (Or.inl ⟨by rfl, ?_⟩) hHeld ?_ ?_
  rotate_left
  · intro w' s0
    obtain ⟨s0_, s1_⟩ := s0
    go_simp
    first | with_reducible rfl | (simp [Instr.field, asAgg, Go.part]; rfl) | rfl
  rotate_left
  · simp only [Act.put, List.setIfInBounds_toArray, List.set_cons_zero, List.set_cons_succ, i64_w, i32_w]
    rfl
  refine take_ (i := 1) (N := some 6) (v := ?_) (a' := ?_) #[true, true, false, false, false, false, false, false] rfl rfl (by kernel_rfl) (fun _ _ _ h => h) (Or.inl ⟨by rfl, ?_⟩) hHeld ?_ ?_
  rotate_left
  · intro w' s0
    obtain ⟨s0_, s1_⟩ := s0
    go_simp
    first | with_reducible rfl | (simp [Instr.field, asAgg, Go.part]; rfl) | rfl
  rotate_left
  · simp only [Act.put, List.setIfInBounds_toArray, List.set_cons_zero, List.set_cons_succ, i64_w, i32_w]
    rfl
  refine pure_ (i := 2) (N := some 7) (v := ?_) (a' := ?_) #[true, true, true, false, false, false, false, false] rfl rfl (by kernel_rfl) (fun _ _ _ h => h) (Or.inl ⟨by rfl, ?_⟩) ?_ ?_
  rotate_left
  · intro w'
    go_simp
    first | with_reducible rfl | (simp [Instr.field, asAgg, Go.part]; rfl) | rfl
  rotate_left
  · simp only [Act.put, List.setIfInBounds_toArray, List.set_cons_zero, List.set_cons_succ, i64_w, i32_w]
    rfl
  refine one_ (i := 3) (N := some 8) #[true, true, true, true, false, false, false, false] rfl rfl (by kernel_rfl) (by decide) (fun K hK => ?_)
  refine goes_ Try.func34 (by kernel_rfl) rfl #[.int .i64 a0] (by rfl) rfl rfl (by (try simp only [List.map_toArray, List.map_cons, List.map_nil]); first | done | rfl | (simp only [List.length_drop, List.length_take]; rfl)) ?_
  with_reducible refine (impl_nailBit.calls a0 t202 _  A1_.out).mono ?_
  rintro e_ w4_ ⟨rfl, hd_⟩
  refine ⟨_, rfl, ?_⟩
  have hb := hd_.below
  clear hd_
  have n_ := Aside0.mk (HM.out.step hb)
  clear HM
  have HM := n_
  clear n_
  clear hb
  refine hK.out _ _ (⟨(blk_cell (blk_below HQ1.out HM.out.below) 0).trans rfl, (blk_cell (blk_below HQ2.out HM.out.below) 0).trans rfl⟩) (fun hHeld => ?_)
  clear hK K
  refine norm_ (a' := ?_) ?_ ?_
  rotate_left
  · show Act.put _ (some 8) _ = _
    simp only [Act.put, List.setIfInBounds_toArray, List.set_cons_zero, List.set_cons_succ, i64_w, i32_w]
    rfl
  refine pure_ (i := 4) (N := some 9) (v := ?_) (a' := ?_) #[true, true, true, true, true, false, false, false] rfl rfl (by kernel_rfl) (fun _ _ _ h => h) (Or.inl ⟨by rfl, ?_⟩) ?_ ?_
  rotate_left
  · intro w'
    go_simp
    first | with_reducible rfl | (simp [Instr.field, asAgg, Go.part]; rfl) | rfl
  rotate_left
  · simp only [Act.put, List.setIfInBounds_toArray, List.set_cons_zero, List.set_cons_succ, i64_w, i32_w]
    rfl
  refine one_ (i := 5) (N := some 10) #[true, true, true, true, true, true, false, false] rfl rfl (by kernel_rfl) (by decide) (fun K hK => ?_)
  refine goesV_ (V := F1) (g := g1) (x := Go.bits .or .i64 a2 t202) (r := t203) (by rfl) rfl rfl rfl rfl (FnB.below HF1.out HM.out.below) A2_.out ?_
  intro w5_ hb
  have n_ := Aside0.mk (HM.out.step hb)
  clear HM
  have HM := n_
  clear n_
  clear hb
  refine hK.out _ _ (⟨(blk_cell (blk_below HQ1.out HM.out.below) 0).trans rfl, (blk_cell (blk_below HQ2.out HM.out.below) 0).trans rfl⟩) (fun hHeld => ?_)
  clear hK K
  refine norm_ (a' := ?_) ?_ ?_
  rotate_left
  · show Act.put _ (some 10) _ = _
    simp only [Act.put, List.setIfInBounds_toArray, List.set_cons_zero, List.set_cons_succ, i64_w, i32_w]
    rfl
  refine pure_ (i := 6) (N := some 11) (v := ?_) (a' := ?_) #[true, true, true, true, true, true, true, false] rfl rfl (by kernel_rfl) (fun _ _ _ h => h) (Or.inl ⟨by rfl, ?_⟩) ?_ ?_
  rotate_left
  · intro w'
    go_simp
    first | with_reducible rfl | (simp [Instr.field, asAgg, Go.part]; rfl) | rfl
  rotate_left
  · simp only [Act.put, List.setIfInBounds_toArray, List.set_cons_zero, List.set_cons_succ, i64_w, i32_w]
    rfl
  refine pure_ (i := 7) (N := some 4) (v := ?_) (a' := ?_) #[true, true, true, true, true, true, true, true] rfl rfl (by kernel_rfl) (fun _ _ _ h => h) (Or.inl ⟨by rfl, ?_⟩) ?_ ?_
  rotate_left
  · intro w'
    go_simp
    first | with_reducible rfl | (simp [Instr.field, asAgg, Go.part]; rfl) | rfl
  rotate_left
  · simp only [Act.put, List.setIfInBounds_toArray, List.set_cons_zero, List.set_cons_succ, i64_w, i32_w]
    rfl
  refine done_ (by kernel_rfl) ?_
  go_wp2
  go_ret
  exact ⟨by first | rfl | (simp; done) | (simp [*]; done), HM.out.below⟩

/-! ### impl_game_that: function 52 -/
def impl_game_that.f (k : Nat) (a0_0 : Int) (l0_1 : List Bool) (a1 : Int) (g2 : Int → Option Bool) : Option (List Int) := (impl_game_in.f k a0_0 l0_1 a1).bind fun t204 => ((slices_DeleteFunc_int_int.f t204 (fun x_ => impl_game_that_1.f x_ g2 a1)).bind fun t206 => (some t206))
set_option maxHeartbeats 8000000 in
set_option maxRecDepth 100000 in
theorem impl_game_that.calls (k : Nat) (gb1 : Nat) (a0_0 : Int) (l0_1 : List Bool) (a1 : Int) (F2 : Value) (g2 : Int → Option Bool) (r : List Int) (w : World) (hl0_1 : l0_1.length = 64) (hq1 : w.heap[gb1]? = some (.cells (#[.int .i64 a0_0] ++ (bcs l0_1)) 46 (0, 0))) (hf2 : FnB Try.prog w F2 g2) (h : impl_game_that.f k a0_0 l0_1 a1 g2 = some r) :
    Calls Try.prog 52 #[.pointer (some ⟨gb1, 0, none⟩), .int .i64 a1, F2] w fun e w' => ∃ v0_ : Value, e = .returned (v0_) ∧ Kd.R (Kd.int .i64) 3 w' w.heap.size (fun _ => True) v0_ r ∧ Below w.heap.size w w' := by
  have HL0_1 := Aside0.mk hl0_1
  clear hl0_1
  have HQ1 := Aside0.mk hq1
  clear hq1
  have HF2 := Aside0.mk hf2
  clear hf2
  have HM := Aside0.mk (MS.start w)
  obtain ⟨fF2, iF2, cF2, eF2⟩ := FnB.shape HF2.out
  subst eF2
  have H : ((impl_game_in.f k a0_0 l0_1 a1).bind fun t204 => ((slices_DeleteFunc_int_int.f t204 (fun x_ => impl_game_that_1.f x_ g2 a1)).bind fun t206 => (some t206))) = some r := h
  clear h
  replace H := Option.bind_eq_some_iff.mp H
  obtain ⟨t204, A1_0, H⟩ := H
  replace H : ((slices_DeleteFunc_int_int.f t204 (fun x_ => impl_game_that_1.f x_ g2 a1)).bind fun t206 => (some t206)) = some r := H
  have A1_ := Aside0.mk A1_0
  clear A1_0
  replace H := Option.bind_eq_some_iff.mp H
  obtain ⟨t206, A2_0, H⟩ := H
  replace H : (some t206) = some r := H
  have A2_ := Aside0.mk A2_0
  clear A2_0
  obtain rfl := Option.some.inj H
  go_enter Try.func52, Try.ntmps52
  go_wp2_with (first | ((with_reducible refine gate_dst (N := 4) rfl ?_); refine box_event ?hg (N := 4) ?hd (cs := #[.int .i64 a1]) (t := 3) ?hr ?_; (case hd => rfl); (case hg => rfl); (case hr => first | (go_simp; done) | (go_simp; rfl)); intro gb2 hg w3_ hbox hb; have n_ := Aside0.mk (HM.out.addBox hb hbox hg); clear HM; have HM := n_; clear n_; clear hb hbox hg) | ((with_reducible refine gate_dst (N := 5) rfl ?_); refine box_event ?hg (N := 5) ?hd (cs := #[(.func (.func fF2) iF2 cF2)]) (t := 58) ?hr ?_; (case hd => rfl); (case hg => rfl); (case hr => first | (go_simp; done) | (go_simp; rfl)); intro gb3 hg w4_ hbox hb; have n_ := Aside0.mk (HM.out.addBox hb hbox hg); clear HM; have HM := n_; clear n_; clear hb hbox hg; have hcz5_0 : w4_.cell? ⟨gb2, 0, none⟩ = some (.int .i64 a1) := (blk_cell (HM.out.box 1 rfl) 0).trans rfl; have hfz5_0 := blk_frozen (HM.out.box 1 rfl) 0) | ((with_reducible refine gate_callee (f := 54) rfl ?_); (with_reducible refine gate_dst (N := 9) rfl ?_); refine goesL_ (some 9) rfl rfl Try.func54 (by kernel_rfl) rfl #[.pointer (some ⟨gb1, 0, none⟩), .int .i64 a1] rfl (by (try simp only [List.map_toArray, List.map_cons, List.map_nil]); first | done | rfl | (simp only [List.length_drop, List.length_take]; rfl)) ?_; (with_reducible refine (impl_game_in.calls k _ a0_0 l0_1 a1 t204 _ ?sd0 ?sd1 A1_.out).mono ?_); (case sd0 => exact HL0_1.out); (case sd1 => exact (blk_below HQ1.out HM.out.below)); rintro e_ w6_ ⟨vv0_, rfl, ho0_, hb⟩; refine ⟨_, rfl, ?_⟩; obtain ⟨Ao4_0, co4_0, ev_⟩ := Kd.R_slice ho0_; subst ev_; have n_ := Aside0.mk (HM.out.addR hb ho0_); clear HM; have HM := n_; clear n_; clear hb ho0_; have fv205 := Aside0.mk (show FnB Try.prog w6_ (.func (.func 64) #[] #[.pointer (some ⟨gb3, 0, none⟩), .pointer (some ⟨gb2, 0, none⟩)]) (fun x_ => impl_game_that_1.f x_ g2 a1) from FnB.mk Try.func64 rfl rfl (fun W_ hW_ x_ r_ hr_ => (show Calls Try.prog 64 #[.int .i64 x_, .pointer (some ⟨gb3, 0, none⟩), .pointer (some ⟨gb2, 0, none⟩)] W_ _ from impl_game_that_1.calls x_ _ _ g2 _ a1 r_ W_ (FnB.below HF2.out (below_step HM.out.below hW_)) (blk_below (HM.out.box 1 rfl) hW_) (blk_below (HM.out.box 2 rfl) hW_) hr_))); have n_ : Aside0 (MS w w6_ [.row 3 (.slice Ao4_0 t204.length co4_0) (encs (Value.int .i64) t204), .box gb3 58 #[(.func (.func fF2) iF2 cF2)], .box gb2 3 #[.int .i64 a1]]) := ⟨HM.out.front 0 rfl⟩; clear HM; have HM := n_; clear n_; have fm8_ := Aside0.mk (show FnM Try.prog w [.box gb3 58 #[(.func (.func fF2) iF2 cF2)], .box gb2 3 #[.int .i64 a1]] (.func (.func 64) #[] #[.pointer (some ⟨gb3, 0, none⟩), .pointer (some ⟨gb2, 0, none⟩)]) (fun x_ => impl_game_that_1.f x_ g2 a1) from FnM.mk Try.func64 rfl rfl (fun W_ hM_ x_ r_ hr_ => (show Calls Try.prog 64 #[.int .i64 x_, .pointer (some ⟨gb3, 0, none⟩), .pointer (some ⟨gb2, 0, none⟩)] W_ _ from impl_game_that_1.calls x_ _ _ g2 _ a1 r_ W_ (FnB.below HF2.out hM_.below) (hM_.box 0 rfl) (hM_.box 1 rfl) hr_)))) | ((with_reducible refine gate_callee (f := 63) rfl ?_); (with_reducible refine gate_dst (N := 11) rfl ?_); refine goesL_ (some 11) rfl rfl Try.func63 (by kernel_rfl) rfl #[.slice Ao4_0 t204.length co4_0, .func (.func 64) #[] #[.pointer (some ⟨gb3, 0, none⟩), .pointer (some ⟨gb2, 0, none⟩)]] rfl (by (try simp only [List.map_toArray, List.map_cons, List.map_nil]); first | done | rfl | (simp only [List.length_drop, List.length_take]; rfl)) ?_; (with_reducible refine (slices_DeleteFunc_int_int.calls _ _ _ _ t204 _ (fun x_ => impl_game_that_1.f x_ g2 a1) t206 _ HM.out fm8_.out A2_.out).mono ?_); rintro e_ w7_ ⟨Ao4_t206, co4_t206, rfl, hm_⟩; refine ⟨_, rfl, ?_⟩; have n_ := Aside0.mk hm_; clear HM hm_; have HM := n_; clear n_))
  go_ret
  exact ⟨_, by first | rfl | (simp; done) | (simp [*]; done), HM.out.R 0 rfl, HM.out.below⟩

/-! ### impl_game_drops: function 45 -/
def impl_game_drops.f : Nat → (Int) → (List Bool) → (Int) → Option (List Int)
  | 0, _, _, _ => none
  | k + 1, a0_0, l0_1, a1 => (impl_game_that.f k a0_0 l0_1 a1 (fun x_ => impl_game_drops_1.f (impl_game_drops.f k) x_ a0_0 l0_1)).bind fun t208 => (some t208)
set_option maxHeartbeats 8000000 in
set_option maxRecDepth 100000 in
theorem impl_game_drops.calls (k : Nat) : ∀ (gb1 : Nat) (a0_0 : Int) (l0_1 : List Bool) (a1 : Int) (r : List Int) (w : World) (hl0_1 : l0_1.length = 64) (hq1 : w.heap[gb1]? = some (.cells (#[.int .i64 a0_0] ++ (bcs l0_1)) 46 (0, 0))) (h : impl_game_drops.f k a0_0 l0_1 a1 = some r),
    Calls Try.prog 45 #[.pointer (some ⟨gb1, 0, none⟩), .int .i64 a1] w fun e w' => ∃ v0_ : Value, e = .returned (v0_) ∧ Kd.R (Kd.int .i64) 3 w' w.heap.size (fun _ => True) v0_ r ∧ Below w.heap.size w w' := by
  induction k using Nat.strongRecOn with
  | _ k ih =>
  intro gb1 a0_0 l0_1 a1 r w hl0_1 hq1 h
  cases k with
  | zero => exact absurd h (by simp [impl_game_drops.f])
  | succ k =>
  simp only [impl_game_drops.f] at h
  have HL0_1 := Aside0.mk hl0_1
  clear hl0_1
  have HQ1 := Aside0.mk hq1
  clear hq1
  have HM := Aside0.mk (MS.start w)
  have H : ((impl_game_that.f k a0_0 l0_1 a1 (fun x_ => impl_game_drops_1.f (impl_game_drops.f k) x_ a0_0 l0_1)).bind fun t208 => (some t208)) = some r := h
  clear h
  replace H := Option.bind_eq_some_iff.mp H
  obtain ⟨t208, A1_0, H⟩ := H
  replace H : (some t208) = some r := H
  have A1_ := Aside0.mk A1_0
  clear A1_0
  obtain rfl := Option.some.inj H
  go_enter Try.func45, Try.ntmps45
  go_wp2_with (first | ((with_reducible refine gate_dst (N := 2) rfl ?_); refine box_event ?hg (N := 2) ?hd (cs := #[.pointer (some ⟨gb1, 0, none⟩)]) (t := 40) ?hr ?_; (case hd => rfl); (case hg => rfl); (case hr => first | (go_simp; done) | (go_simp; rfl)); intro gb2 hg w2_ hbox hb; have n_ := Aside0.mk (HM.out.addBox hb hbox hg); clear HM; have HM := n_; clear n_; clear hb hbox hg; have hcz3_0 : w2_.cell? ⟨gb2, 0, none⟩ = some (.pointer (some ⟨gb1, 0, none⟩)) := (blk_cell (HM.out.box 0 rfl) 0).trans rfl; have hfz3_0 := blk_frozen (HM.out.box 0 rfl) 0; have fv207 := Aside0.mk (show FnB Try.prog w2_ (.func (.func 55) #[] #[.pointer (some ⟨gb2, 0, none⟩)]) (fun x_ => impl_game_drops_1.f (impl_game_drops.f k) x_ a0_0 l0_1) from FnB.mk Try.func55 rfl rfl (fun W_ hW_ x_ r_ hr_ => (show Calls Try.prog 55 #[.int .i64 x_, .pointer (some ⟨gb2, 0, none⟩)] W_ _ from impl_game_drops_1.calls (impl_game_drops.f k) (ih k (by omega)) x_ _ _ a0_0 l0_1 r_ W_ HL0_1.out (blk_below HQ1.out (below_step HM.out.below hW_)) (blk_below (HM.out.box 0 rfl) hW_) hr_)))) | ((with_reducible refine gate_callee (f := 52) rfl ?_); (with_reducible refine gate_dst (N := 8) rfl ?_); refine goesL_ (some 8) rfl rfl Try.func52 (by kernel_rfl) rfl #[.pointer (some ⟨gb1, 0, none⟩), .int .i64 a1, .func (.func 55) #[] #[.pointer (some ⟨gb2, 0, none⟩)]] rfl (by (try simp only [List.map_toArray, List.map_cons, List.map_nil]); first | done | rfl | (simp only [List.length_drop, List.length_take]; rfl)) ?_; (with_reducible refine (impl_game_that.calls k _ a0_0 l0_1 a1 _ (fun x_ => impl_game_drops_1.f (impl_game_drops.f k) x_ a0_0 l0_1) t208 _ ?sd0 ?sd1 ?sd2 A1_.out).mono ?_); (case sd0 => exact HL0_1.out); (case sd1 => exact (blk_below HQ1.out HM.out.below)); (case sd2 => exact fv207.out); rintro e_ w4_ ⟨vv0_, rfl, ho0_, hb⟩; refine ⟨_, rfl, ?_⟩; obtain ⟨Ao3_0, co3_0, ev_⟩ := Kd.R_slice ho0_; subst ev_; have n_ := Aside0.mk (HM.out.addR hb ho0_); clear HM; have HM := n_; clear n_; clear hb ho0_))
  go_ret
  exact ⟨_, by first | rfl | (simp; done) | (simp [*]; done), HM.out.R 0 rfl, HM.out.below⟩

/-! ### impl_DropMoves: function 27 -/
def impl_DropMoves.f (k : Nat) (l0 : List Int) (a1 : Int) (a2 : Int) : Option (List Int × Bool) := (impl_gameAt.f k l0 a1 a2).bind fun bt209 => (if bt209.1 = true then (if bt209.2.2.2 = true then ((impl_game_drops.f k bt209.2.1 bt209.2.2.1 a2).bind fun t213 => (some (t213, true))) else (some ([], false))) else (if bt209.2.2.2 = true then (none) else (some ([], false))))
set_option maxHeartbeats 8000000 in
set_option maxRecDepth 100000 in
theorem impl_DropMoves.calls (k : Nat) (A0 : Option Addr) (c0 : Nat) (l0 : List Int) (a1 : Int) (a2 : Int) (r1 : List Int) (r2 : Bool) (w : World) (hr0 : Kd.C (Kd.int .i64) w A0 l0.length l0) (hc0 : l0.length ≤ c0) (h : impl_DropMoves.f k l0 a1 a2 = some (r1, r2)) :
    Calls Try.prog 27 #[.slice A0 l0.length c0, .int .i64 a1, .int .i64 a2] w fun e w' => ∃ v0_ : Value, e = .returned (.tuple #[v0_, .bool r2]) ∧ Kd.R (Kd.int .i64) 3 w' w.heap.size (fun _ => True) v0_ r1 ∧ Below w.heap.size w w' := by
  have HR0 := Aside0.mk hr0
  have HC0 := Aside0.mk hc0
  clear hr0 hc0
  have HM := Aside0.mk (MS.start w)
  have H : ((impl_gameAt.f k l0 a1 a2).bind fun bt209 => (if bt209.1 = true then (if bt209.2.2.2 = true then ((impl_game_drops.f k bt209.2.1 bt209.2.2.1 a2).bind fun t213 => (some (t213, true))) else (some ([], false))) else (if bt209.2.2.2 = true then (none) else (some ([], false))))) = some (r1, r2) := h
  clear h
  replace H := Option.bind_eq_some_iff.mp H
  obtain ⟨⟨t209, t210, t211, t212⟩, A1_0, H⟩ := H
  replace H : (if t209 = true then (if t212 = true then ((impl_game_drops.f k t210 t211 a2).bind fun t213 => (some (t213, true))) else (some ([], false))) else (if t212 = true then (none) else (some ([], false)))) = some (r1, r2) := H
  have A1_ := Aside0.mk A1_0
  clear A1_0
  by_cases c2_ : t209 = true
  · subst c2_
    have H1 : (if t212 = true then ((impl_game_drops.f k t210 t211 a2).bind fun t213 => (some (t213, true))) else (some ([], false))) = some (r1, r2) := by rw [if_pos rfl] at H; exact H
    clear H
    have H := H1
    clear H1
    by_cases c3_ : t212 = true
    · subst c3_
      have H1 : ((impl_game_drops.f k t210 t211 a2).bind fun t213 => (some (t213, true))) = some (r1, r2) := by rw [if_pos rfl] at H; exact H
      clear H
      have H := H1
      clear H1
      replace H := Option.bind_eq_some_iff.mp H
      obtain ⟨t213, A4_0, H⟩ := H
      replace H : (some (t213, true)) = some (r1, r2) := H
      have A4_ := Aside0.mk A4_0
      clear A4_0
      simp only [Option.some.injEq, Prod.mk.injEq] at H
      obtain ⟨rfl, rfl⟩ := H
      go_enter Try.func27, Try.ntmps27
      go_wp2_with (first | ((with_reducible refine gate_callee (f := 33) rfl ?_); (with_reducible refine gate_dst (N := 14) rfl ?_); refine goesL_ (some 14) rfl rfl Try.func33 (by kernel_rfl) rfl #[.slice A0 l0.length c0, .int .i64 a1, .int .i64 a2] rfl (by (try simp only [List.map_toArray, List.map_cons, List.map_nil]); first | done | rfl | (simp only [List.length_drop, List.length_take]; rfl)) ?_; (with_reducible refine (impl_gameAt.calls k _ _ l0 a1 a2 true t210 t211 true _ ?sd0 ?sd1 A1_.out).mono ?_); (case sd0 => exact (Kd.C_below HR0.out HM.out.below)); (case sd1 => exact HC0.out); rintro e_ w5_ ⟨vv0_, rfl, ho0_, ho1_, hb⟩; refine ⟨_, rfl, ?_⟩; have HLt211 := Aside0.mk ho1_; obtain ⟨gb1, ev_, hbx_, hge_⟩ := PtrTo.yes ho0_; subst ev_; have n_ := Aside0.mk (HM.out.addPtr hb hbx_ hge_); clear HM; have HM := n_; clear n_; clear hbx_ hge_; clear hb ho0_ ho1_) | ((with_reducible refine gate_callee (f := 45) rfl ?_); (with_reducible refine gate_dst (N := 21) rfl ?_); refine goesL_ (some 21) rfl rfl Try.func45 (by kernel_rfl) rfl #[.pointer (some ⟨gb1, 0, none⟩), .int .i64 a2] rfl (by (try simp only [List.map_toArray, List.map_cons, List.map_nil]); first | done | rfl | (simp only [List.length_drop, List.length_take]; rfl)) ?_; (with_reducible refine (impl_game_drops.calls k _ t210 t211 a2 t213 _ ?sd0 ?sd1 A4_.out).mono ?_); (case sd0 => exact HLt211.out); (case sd1 => exact (HM.out.box 0 rfl)); rintro e_ w6_ ⟨vv0_, rfl, ho0_, hb⟩; refine ⟨_, rfl, ?_⟩; obtain ⟨Ao2_0, co2_0, ev_⟩ := Kd.R_slice ho0_; subst ev_; have n_ := Aside0.mk (HM.out.addR hb ho0_); clear HM; have HM := n_; clear n_; clear hb ho0_))
      go_ret2
      exact ⟨_, by first | rfl | (simp; done) | (simp [*]; done), HM.out.R 0 rfl, HM.out.below⟩
    · replace c3_ := Bool.eq_false_iff.mpr c3_
      subst c3_
      have H1 : (some ([], false)) = some (r1, r2) := by rw [if_neg (show ¬ (false = true) by decide)] at H; exact H
      clear H
      have H := H1
      clear H1
      simp only [Option.some.injEq, Prod.mk.injEq] at H
      obtain ⟨rfl, rfl⟩ := H
      go_enter Try.func27, Try.ntmps27
      go_wp2_with (first | ((with_reducible refine gate_callee (f := 33) rfl ?_); (with_reducible refine gate_dst (N := 14) rfl ?_); refine goesL_ (some 14) rfl rfl Try.func33 (by kernel_rfl) rfl #[.slice A0 l0.length c0, .int .i64 a1, .int .i64 a2] rfl (by (try simp only [List.map_toArray, List.map_cons, List.map_nil]); first | done | rfl | (simp only [List.length_drop, List.length_take]; rfl)) ?_; (with_reducible refine (impl_gameAt.calls k _ _ l0 a1 a2 true t210 t211 false _ ?sd0 ?sd1 A1_.out).mono ?_); (case sd0 => exact (Kd.C_below HR0.out HM.out.below)); (case sd1 => exact HC0.out); rintro e_ w7_ ⟨vv0_, rfl, ho0_, ho1_, hb⟩; refine ⟨_, rfl, ?_⟩; have HLt211 := Aside0.mk ho1_; obtain ⟨gb1, ev_, hbx_, hge_⟩ := PtrTo.yes ho0_; subst ev_; have n_ := Aside0.mk (HM.out.addPtr hb hbx_ hge_); clear HM; have HM := n_; clear n_; clear hbx_ hge_; clear hb ho0_ ho1_))
      go_ret2
      exact ⟨_, by first | rfl | (simp; done) | (simp [*]; done), Kd.R_nil _ _ _ _ _, HM.out.below⟩
  · replace c2_ := Bool.eq_false_iff.mpr c2_
    subst c2_
    have H1 : (if t212 = true then (none) else (some ([], false))) = some (r1, r2) := by rw [if_neg (show ¬ (false = true) by decide)] at H; exact H
    clear H
    have H := H1
    clear H1
    by_cases c8_ : t212 = true
    · subst c8_
      have H1 : (none) = some (r1, r2) := by rw [if_pos rfl] at H; exact H
      clear H
      have H := H1
      clear H1
      exact absurd H (by simp)
    · replace c8_ := Bool.eq_false_iff.mpr c8_
      subst c8_
      have H1 : (some ([], false)) = some (r1, r2) := by rw [if_neg (show ¬ (false = true) by decide)] at H; exact H
      clear H
      have H := H1
      clear H1
      simp only [Option.some.injEq, Prod.mk.injEq] at H
      obtain ⟨rfl, rfl⟩ := H
      go_enter Try.func27, Try.ntmps27
      go_wp2_with (first | ((with_reducible refine gate_callee (f := 33) rfl ?_); (with_reducible refine gate_dst (N := 14) rfl ?_); refine goesL_ (some 14) rfl rfl Try.func33 (by kernel_rfl) rfl #[.slice A0 l0.length c0, .int .i64 a1, .int .i64 a2] rfl (by (try simp only [List.map_toArray, List.map_cons, List.map_nil]); first | done | rfl | (simp only [List.length_drop, List.length_take]; rfl)) ?_; (with_reducible refine (impl_gameAt.calls k _ _ l0 a1 a2 false t210 t211 false _ ?sd0 ?sd1 A1_.out).mono ?_); (case sd0 => exact (Kd.C_below HR0.out HM.out.below)); (case sd1 => exact HC0.out); rintro e_ w9_ ⟨vv0_, rfl, ho0_, ho1_, hb⟩; refine ⟨_, rfl, ?_⟩; have HLt211 := Aside0.mk ho1_; have ev_ := PtrTo.no ho0_; subst ev_; have n_ := Aside0.mk (HM.out.step hb); clear HM; have HM := n_; clear n_; clear hb ho0_ ho1_))
      go_ret2
      exact ⟨_, by first | rfl | (simp; done) | (simp [*]; done), Kd.R_nil _ _ _ _ _, HM.out.below⟩

/-! ### impl_CanDrop: function 15 -/
def impl_CanDrop.f (k : Nat) (l0 : List Int) (a1 : Int) (a2 : Int) : Option (Bool × Bool) := (impl_DropMoves.f k l0 a1 a2).bind fun bt214 => (some (decide ((bt214.1.length : Int) > 0), bt214.2))
set_option maxHeartbeats 8000000 in
set_option maxRecDepth 100000 in
theorem impl_CanDrop.calls (k : Nat) (A0 : Option Addr) (c0 : Nat) (l0 : List Int) (a1 : Int) (a2 : Int) (r1 : Bool) (r2 : Bool) (w : World) (hr0 : Kd.C (Kd.int .i64) w A0 l0.length l0) (hc0 : l0.length ≤ c0) (h : impl_CanDrop.f k l0 a1 a2 = some (r1, r2)) :
    Calls Try.prog 15 #[.slice A0 l0.length c0, .int .i64 a1, .int .i64 a2] w fun e w' => e = .returned (.tuple #[.bool r1, .bool r2]) ∧ Below w.heap.size w w' := by
  have HR0 := Aside0.mk hr0
  have HC0 := Aside0.mk hc0
  clear hr0 hc0
  have HM := Aside0.mk (MS.start w)
  have H : ((impl_DropMoves.f k l0 a1 a2).bind fun bt214 => (some (decide ((bt214.1.length : Int) > 0), bt214.2))) = some (r1, r2) := h
  clear h
  replace H := Option.bind_eq_some_iff.mp H
  obtain ⟨⟨t214, t215⟩, A1_0, H⟩ := H
  replace H : (some (decide ((t214.length : Int) > 0), t215)) = some (r1, r2) := H
  have A1_ := Aside0.mk A1_0
  clear A1_0
  simp only [Option.some.injEq, Prod.mk.injEq] at H
  obtain ⟨rfl, rfl⟩ := H
  go_enter Try.func15, Try.ntmps15
  go_wp2_with (first | ((with_reducible refine gate_callee (f := 27) rfl ?_); (with_reducible refine gate_dst (N := 14) rfl ?_); refine goesL_ (some 14) rfl rfl Try.func27 (by kernel_rfl) rfl #[.slice A0 l0.length c0, .int .i64 a1, .int .i64 a2] rfl (by (try simp only [List.map_toArray, List.map_cons, List.map_nil]); first | done | rfl | (simp only [List.length_drop, List.length_take]; rfl)) ?_; (with_reducible refine (impl_DropMoves.calls k _ _ l0 a1 a2 t214 t215 _ ?sd0 ?sd1 A1_.out).mono ?_); (case sd0 => exact (Kd.C_below HR0.out HM.out.below)); (case sd1 => exact HC0.out); rintro e_ w2_ ⟨vv0_, rfl, ho0_, hb⟩; refine ⟨_, rfl, ?_⟩; obtain ⟨Ao1_0, co1_0, ev_⟩ := Kd.R_slice ho0_; subst ev_; have n_ := Aside0.mk (HM.out.addR hb ho0_); clear HM; have HM := n_; clear n_; clear hb ho0_))
  go_ret2
  exact ⟨by first | rfl | (simp; done) | (simp [*]; done), HM.out.below⟩

/-! ### impl_game_keeps_1: function 62 -/
def impl_game_keeps_1.f (φ51 : Int → List Bool → Int → Option (List Int)) (a0 : Int) (a1_0 : Int) (l1_1 : List Bool) : Option (Bool) := if 0 ≤ a0 then (if a0 < 64 then (if rdOf false l1_1 a0 = true then (some false) else ((φ51 a1_0 l1_1 a0).bind fun t217 => (some ((t217.length : Int) == 0)))) else (none)) else (none)
set_option maxHeartbeats 8000000 in
set_option maxRecDepth 100000 in
theorem impl_game_keeps_1.calls (φ51 : Int → List Bool → Int → Option (List Int)) (hφ51 : ∀ (gb1 : Nat) (a0_0 : Int) (l0_1 : List Bool) (a1 : Int) (r : List Int) (w : World) (hl0_1 : l0_1.length = 64) (hq1 : w.heap[gb1]? = some (.cells (#[.int .i64 a0_0] ++ (bcs l0_1)) 46 (0, 0))) (h : φ51 a0_0 l0_1 a1 = some r), Calls Try.prog 51 #[.pointer (some ⟨gb1, 0, none⟩), .int .i64 a1] w fun e w' => ∃ v0_ : Value, e = .returned (v0_) ∧ Kd.R (Kd.int .i64) 3 w' w.heap.size (fun _ => True) v0_ r ∧ Below w.heap.size w w') (a0 : Int) (gb1 : Nat) (gb2 : Nat) (a1_0 : Int) (l1_1 : List Bool) (r : Bool) (w : World) (hl1_1 : l1_1.length = 64) (hq2 : w.heap[gb2]? = some (.cells (#[.int .i64 a1_0] ++ (bcs l1_1)) 46 (0, 0))) (hq1 : w.heap[gb1]? = some (.cells #[.pointer (some ⟨gb2, 0, none⟩)] 40 (0, 0))) (h : impl_game_keeps_1.f φ51 a0 a1_0 l1_1 = some r) :
    Calls Try.prog 62 #[.int .i64 a0, .pointer (some ⟨gb1, 0, none⟩)] w fun e w' => e = .returned (.bool r) ∧ Below w.heap.size w w' := by
  have HΦ51 := Aside0.mk hφ51
  clear hφ51
  have HL1_1 := Aside0.mk hl1_1
  clear hl1_1
  have HQ2 := Aside0.mk hq2
  clear hq2
  have HQ1 := Aside0.mk hq1
  clear hq1
  have hu44 := Try.underlying44
  have hu46 := Try.underlying46
  have HM := Aside0.mk (MS.start w)
  have H : (if 0 ≤ a0 then (if a0 < 64 then (if rdOf false l1_1 a0 = true then (some false) else ((φ51 a1_0 l1_1 a0).bind fun t217 => (some ((t217.length : Int) == 0)))) else (none)) else (none)) = some r := h
  clear h
  by_cases c1_ : 0 ≤ a0
  · rw [if_pos c1_] at H
    have c1_b0 : decide (0 ≤ a0) = true := decide_eq_true c1_
    clear c1_
    by_cases c2_ : a0 < 64
    · rw [if_pos c2_] at H
      have c2_b0 : decide (a0 < 64) = true := decide_eq_true c2_
      clear c2_
      by_cases c3_ : rdOf false l1_1 a0 = true
      · rw [if_pos c3_] at H
        have c3_b0 : rdOf false l1_1 a0 = true := c3_
        clear c3_
        obtain rfl := Option.some.inj H
        have hcz4_0 : w.cell? ⟨gb1, 0, none⟩ = some (.pointer (some ⟨gb2, 0, none⟩)) := (blk_cell (blk_below HQ1.out HM.out.below) 0).trans rfl
        have hfz4_0 := blk_frozen (blk_below HQ1.out HM.out.below) 0
        have p216 : 0 ≤ (a0 : Int) := of_decide_eq_true (by first | (with_reducible assumption) | assumption)
        have q216 : (a0 : Int) < 64 := of_decide_eq_true (by first | (with_reducible assumption) | assumption)
        have hx216 := fcellB (blk_below HQ2.out HM.out.below) 1 rfl a0 p216 (by have := HL1_1.out; omega)
        replace p216 := eq_true p216
        replace q216 := eq_true q216
        go_enter Try.func62, Try.ntmps62
        go_wp2
        go_ret
        exact ⟨by first | rfl | (simp; done) | (simp [*]; done), HM.out.below⟩
      · rw [if_neg c3_] at H
        have c3_b0 : rdOf false l1_1 a0 = false := by simpa using c3_
        clear c3_
        replace H := Option.bind_eq_some_iff.mp H
        obtain ⟨t217, A5_0, H⟩ := H
        replace H : (some ((t217.length : Int) == 0)) = some r := H
        have A5_ := Aside0.mk A5_0
        clear A5_0
        obtain rfl := Option.some.inj H
        have hcz6_0 : w.cell? ⟨gb1, 0, none⟩ = some (.pointer (some ⟨gb2, 0, none⟩)) := (blk_cell (blk_below HQ1.out HM.out.below) 0).trans rfl
        have hfz6_0 := blk_frozen (blk_below HQ1.out HM.out.below) 0
        have p216 : 0 ≤ (a0 : Int) := of_decide_eq_true (by first | (with_reducible assumption) | assumption)
        have q216 : (a0 : Int) < 64 := of_decide_eq_true (by first | (with_reducible assumption) | assumption)
        have hx216 := fcellB (blk_below HQ2.out HM.out.below) 1 rfl a0 p216 (by have := HL1_1.out; omega)
        replace p216 := eq_true p216
        replace q216 := eq_true q216
        go_enter Try.func62, Try.ntmps62
        go_wp2_with (first | (go_at_call 51; (refine calls_of_args (args' := #[.pointer (some ⟨gb2, 0, none⟩), .int .i64 a0]) (by first | done | rfl) ?_); (with_reducible refine (HΦ51.out _ a1_0 l1_1 a0 t217 _ ?sd0 ?sd1 A5_.out).mono ?_); (case sd0 => exact HL1_1.out); (case sd1 => exact (blk_below HQ2.out HM.out.below)); rintro e_ w7_ ⟨vv0_, rfl, ho0_, hb⟩; obtain ⟨Ao3_0, co3_0, ev_⟩ := Kd.R_slice ho0_; subst ev_; have n_ := Aside0.mk (HM.out.addR hb ho0_); clear HM; have HM := n_; clear n_; clear hb ho0_))
        go_ret
        exact ⟨by first | rfl | (simp; done) | (simp [*]; done), HM.out.below⟩
    · rw [if_neg c2_] at H
      have c2_b0 : decide (a0 < 64) = false := decide_eq_false c2_
      clear c2_
      exact absurd H (by simp)
  · rw [if_neg c1_] at H
    have c1_b0 : decide (0 ≤ a0) = false := decide_eq_false c1_
    clear c1_
    exact absurd H (by simp)

/-! ### impl_game_keeps: function 51 -/
def impl_game_keeps.f : Nat → (Int) → (List Bool) → (Int) → Option (List Int)
  | 0, _, _, _ => none
  | k + 1, a0_0, l0_1, a1 => (impl_game_that.f k a0_0 l0_1 a1 (fun x_ => impl_game_keeps_1.f (impl_game_keeps.f k) x_ a0_0 l0_1)).bind fun t219 => (some t219)
set_option maxHeartbeats 8000000 in
set_option maxRecDepth 100000 in
theorem impl_game_keeps.calls (k : Nat) : ∀ (gb1 : Nat) (a0_0 : Int) (l0_1 : List Bool) (a1 : Int) (r : List Int) (w : World) (hl0_1 : l0_1.length = 64) (hq1 : w.heap[gb1]? = some (.cells (#[.int .i64 a0_0] ++ (bcs l0_1)) 46 (0, 0))) (h : impl_game_keeps.f k a0_0 l0_1 a1 = some r),
    Calls Try.prog 51 #[.pointer (some ⟨gb1, 0, none⟩), .int .i64 a1] w fun e w' => ∃ v0_ : Value, e = .returned (v0_) ∧ Kd.R (Kd.int .i64) 3 w' w.heap.size (fun _ => True) v0_ r ∧ Below w.heap.size w w' := by
  induction k using Nat.strongRecOn with
  | _ k ih =>
  intro gb1 a0_0 l0_1 a1 r w hl0_1 hq1 h
  cases k with
  | zero => exact absurd h (by simp [impl_game_keeps.f])
  | succ k =>
  simp only [impl_game_keeps.f] at h
  have HL0_1 := Aside0.mk hl0_1
  clear hl0_1
  have HQ1 := Aside0.mk hq1
  clear hq1
  have HM := Aside0.mk (MS.start w)
  have H : ((impl_game_that.f k a0_0 l0_1 a1 (fun x_ => impl_game_keeps_1.f (impl_game_keeps.f k) x_ a0_0 l0_1)).bind fun t219 => (some t219)) = some r := h
  clear h
  replace H := Option.bind_eq_some_iff.mp H
  obtain ⟨t219, A1_0, H⟩ := H
  replace H : (some t219) = some r := H
  have A1_ := Aside0.mk A1_0
  clear A1_0
  obtain rfl := Option.some.inj H
  go_enter Try.func51, Try.ntmps51
  go_wp2_with (first | ((with_reducible refine gate_dst (N := 2) rfl ?_); refine box_event ?hg (N := 2) ?hd (cs := #[.pointer (some ⟨gb1, 0, none⟩)]) (t := 40) ?hr ?_; (case hd => rfl); (case hg => rfl); (case hr => first | (go_simp; done) | (go_simp; rfl)); intro gb2 hg w2_ hbox hb; have n_ := Aside0.mk (HM.out.addBox hb hbox hg); clear HM; have HM := n_; clear n_; clear hb hbox hg; have hcz3_0 : w2_.cell? ⟨gb2, 0, none⟩ = some (.pointer (some ⟨gb1, 0, none⟩)) := (blk_cell (HM.out.box 0 rfl) 0).trans rfl; have hfz3_0 := blk_frozen (HM.out.box 0 rfl) 0; have fv218 := Aside0.mk (show FnB Try.prog w2_ (.func (.func 62) #[] #[.pointer (some ⟨gb2, 0, none⟩)]) (fun x_ => impl_game_keeps_1.f (impl_game_keeps.f k) x_ a0_0 l0_1) from FnB.mk Try.func62 rfl rfl (fun W_ hW_ x_ r_ hr_ => (show Calls Try.prog 62 #[.int .i64 x_, .pointer (some ⟨gb2, 0, none⟩)] W_ _ from impl_game_keeps_1.calls (impl_game_keeps.f k) (ih k (by omega)) x_ _ _ a0_0 l0_1 r_ W_ HL0_1.out (blk_below HQ1.out (below_step HM.out.below hW_)) (blk_below (HM.out.box 0 rfl) hW_) hr_)))) | ((with_reducible refine gate_callee (f := 52) rfl ?_); (with_reducible refine gate_dst (N := 8) rfl ?_); refine goesL_ (some 8) rfl rfl Try.func52 (by kernel_rfl) rfl #[.pointer (some ⟨gb1, 0, none⟩), .int .i64 a1, .func (.func 62) #[] #[.pointer (some ⟨gb2, 0, none⟩)]] rfl (by (try simp only [List.map_toArray, List.map_cons, List.map_nil]); first | done | rfl | (simp only [List.length_drop, List.length_take]; rfl)) ?_; (with_reducible refine (impl_game_that.calls k _ a0_0 l0_1 a1 _ (fun x_ => impl_game_keeps_1.f (impl_game_keeps.f k) x_ a0_0 l0_1) t219 _ ?sd0 ?sd1 ?sd2 A1_.out).mono ?_); (case sd0 => exact HL0_1.out); (case sd1 => exact (blk_below HQ1.out HM.out.below)); (case sd2 => exact fv218.out); rintro e_ w4_ ⟨vv0_, rfl, ho0_, hb⟩; refine ⟨_, rfl, ?_⟩; obtain ⟨Ao3_0, co3_0, ev_⟩ := Kd.R_slice ho0_; subst ev_; have n_ := Aside0.mk (HM.out.addR hb ho0_); clear HM; have HM := n_; clear n_; clear hb ho0_))
  go_ret
  exact ⟨_, by first | rfl | (simp; done) | (simp [*]; done), HM.out.R 0 rfl, HM.out.below⟩

/-! ### impl_KeepMoves: function 38 -/
def impl_KeepMoves.f (k : Nat) (l0 : List Int) (a1 : Int) (a2 : Int) : Option (List Int × Bool) := (impl_gameAt.f k l0 a1 a2).bind fun bt220 => (if bt220.1 = true then (if bt220.2.2.2 = true then ((impl_game_keeps.f k bt220.2.1 bt220.2.2.1 a2).bind fun t224 => (some (t224, true))) else (some ([], false))) else (if bt220.2.2.2 = true then (none) else (some ([], false))))
set_option maxHeartbeats 8000000 in
set_option maxRecDepth 100000 in
theorem impl_KeepMoves.calls (k : Nat) (A0 : Option Addr) (c0 : Nat) (l0 : List Int) (a1 : Int) (a2 : Int) (r1 : List Int) (r2 : Bool) (w : World) (hr0 : Kd.C (Kd.int .i64) w A0 l0.length l0) (hc0 : l0.length ≤ c0) (h : impl_KeepMoves.f k l0 a1 a2 = some (r1, r2)) :
    Calls Try.prog 38 #[.slice A0 l0.length c0, .int .i64 a1, .int .i64 a2] w fun e w' => ∃ v0_ : Value, e = .returned (.tuple #[v0_, .bool r2]) ∧ Kd.R (Kd.int .i64) 3 w' w.heap.size (fun _ => True) v0_ r1 ∧ Below w.heap.size w w' := by
  have HR0 := Aside0.mk hr0
  have HC0 := Aside0.mk hc0
  clear hr0 hc0
  have HM := Aside0.mk (MS.start w)
  have H : ((impl_gameAt.f k l0 a1 a2).bind fun bt220 => (if bt220.1 = true then (if bt220.2.2.2 = true then ((impl_game_keeps.f k bt220.2.1 bt220.2.2.1 a2).bind fun t224 => (some (t224, true))) else (some ([], false))) else (if bt220.2.2.2 = true then (none) else (some ([], false))))) = some (r1, r2) := h
  clear h
  replace H := Option.bind_eq_some_iff.mp H
  obtain ⟨⟨t220, t221, t222, t223⟩, A1_0, H⟩ := H
  replace H : (if t220 = true then (if t223 = true then ((impl_game_keeps.f k t221 t222 a2).bind fun t224 => (some (t224, true))) else (some ([], false))) else (if t223 = true then (none) else (some ([], false)))) = some (r1, r2) := H
  have A1_ := Aside0.mk A1_0
  clear A1_0
  by_cases c2_ : t220 = true
  · subst c2_
    have H1 : (if t223 = true then ((impl_game_keeps.f k t221 t222 a2).bind fun t224 => (some (t224, true))) else (some ([], false))) = some (r1, r2) := by rw [if_pos rfl] at H; exact H
    clear H
    have H := H1
    clear H1
    by_cases c3_ : t223 = true
    · subst c3_
      have H1 : ((impl_game_keeps.f k t221 t222 a2).bind fun t224 => (some (t224, true))) = some (r1, r2) := by rw [if_pos rfl] at H; exact H
      clear H
      have H := H1
      clear H1
      replace H := Option.bind_eq_some_iff.mp H
      obtain ⟨t224, A4_0, H⟩ := H
      replace H : (some (t224, true)) = some (r1, r2) := H
      have A4_ := Aside0.mk A4_0
      clear A4_0
      simp only [Option.some.injEq, Prod.mk.injEq] at H
      obtain ⟨rfl, rfl⟩ := H
      go_enter Try.func38, Try.ntmps38
      go_wp2_with (first | ((with_reducible refine gate_callee (f := 33) rfl ?_); (with_reducible refine gate_dst (N := 14) rfl ?_); refine goesL_ (some 14) rfl rfl Try.func33 (by kernel_rfl) rfl #[.slice A0 l0.length c0, .int .i64 a1, .int .i64 a2] rfl (by (try simp only [List.map_toArray, List.map_cons, List.map_nil]); first | done | rfl | (simp only [List.length_drop, List.length_take]; rfl)) ?_; (with_reducible refine (impl_gameAt.calls k _ _ l0 a1 a2 true t221 t222 true _ ?sd0 ?sd1 A1_.out).mono ?_); (case sd0 => exact (Kd.C_below HR0.out HM.out.below)); (case sd1 => exact HC0.out); rintro e_ w5_ ⟨vv0_, rfl, ho0_, ho1_, hb⟩; refine ⟨_, rfl, ?_⟩; have HLt222 := Aside0.mk ho1_; obtain ⟨gb1, ev_, hbx_, hge_⟩ := PtrTo.yes ho0_; subst ev_; have n_ := Aside0.mk (HM.out.addPtr hb hbx_ hge_); clear HM; have HM := n_; clear n_; clear hbx_ hge_; clear hb ho0_ ho1_) | ((with_reducible refine gate_callee (f := 51) rfl ?_); (with_reducible refine gate_dst (N := 21) rfl ?_); refine goesL_ (some 21) rfl rfl Try.func51 (by kernel_rfl) rfl #[.pointer (some ⟨gb1, 0, none⟩), .int .i64 a2] rfl (by (try simp only [List.map_toArray, List.map_cons, List.map_nil]); first | done | rfl | (simp only [List.length_drop, List.length_take]; rfl)) ?_; (with_reducible refine (impl_game_keeps.calls k _ t221 t222 a2 t224 _ ?sd0 ?sd1 A4_.out).mono ?_); (case sd0 => exact HLt222.out); (case sd1 => exact (HM.out.box 0 rfl)); rintro e_ w6_ ⟨vv0_, rfl, ho0_, hb⟩; refine ⟨_, rfl, ?_⟩; obtain ⟨Ao2_0, co2_0, ev_⟩ := Kd.R_slice ho0_; subst ev_; have n_ := Aside0.mk (HM.out.addR hb ho0_); clear HM; have HM := n_; clear n_; clear hb ho0_))
      go_ret2
      exact ⟨_, by first | rfl | (simp; done) | (simp [*]; done), HM.out.R 0 rfl, HM.out.below⟩
    · replace c3_ := Bool.eq_false_iff.mpr c3_
      subst c3_
      have H1 : (some ([], false)) = some (r1, r2) := by rw [if_neg (show ¬ (false = true) by decide)] at H; exact H
      clear H
      have H := H1
      clear H1
      simp only [Option.some.injEq, Prod.mk.injEq] at H
      obtain ⟨rfl, rfl⟩ := H
      go_enter Try.func38, Try.ntmps38
      go_wp2_with (first | ((with_reducible refine gate_callee (f := 33) rfl ?_); (with_reducible refine gate_dst (N := 14) rfl ?_); refine goesL_ (some 14) rfl rfl Try.func33 (by kernel_rfl) rfl #[.slice A0 l0.length c0, .int .i64 a1, .int .i64 a2] rfl (by (try simp only [List.map_toArray, List.map_cons, List.map_nil]); first | done | rfl | (simp only [List.length_drop, List.length_take]; rfl)) ?_; (with_reducible refine (impl_gameAt.calls k _ _ l0 a1 a2 true t221 t222 false _ ?sd0 ?sd1 A1_.out).mono ?_); (case sd0 => exact (Kd.C_below HR0.out HM.out.below)); (case sd1 => exact HC0.out); rintro e_ w7_ ⟨vv0_, rfl, ho0_, ho1_, hb⟩; refine ⟨_, rfl, ?_⟩; have HLt222 := Aside0.mk ho1_; obtain ⟨gb1, ev_, hbx_, hge_⟩ := PtrTo.yes ho0_; subst ev_; have n_ := Aside0.mk (HM.out.addPtr hb hbx_ hge_); clear HM; have HM := n_; clear n_; clear hbx_ hge_; clear hb ho0_ ho1_))
      go_ret2
      exact ⟨_, by first | rfl | (simp; done) | (simp [*]; done), Kd.R_nil _ _ _ _ _, HM.out.below⟩
  · replace c2_ := Bool.eq_false_iff.mpr c2_
    subst c2_
    have H1 : (if t223 = true then (none) else (some ([], false))) = some (r1, r2) := by rw [if_neg (show ¬ (false = true) by decide)] at H; exact H
    clear H
    have H := H1
    clear H1
    by_cases c8_ : t223 = true
    · subst c8_
      have H1 : (none) = some (r1, r2) := by rw [if_pos rfl] at H; exact H
      clear H
      have H := H1
      clear H1
      exact absurd H (by simp)
    · replace c8_ := Bool.eq_false_iff.mpr c8_
      subst c8_
      have H1 : (some ([], false)) = some (r1, r2) := by rw [if_neg (show ¬ (false = true) by decide)] at H; exact H
      clear H
      have H := H1
      clear H1
      simp only [Option.some.injEq, Prod.mk.injEq] at H
      obtain ⟨rfl, rfl⟩ := H
      go_enter Try.func38, Try.ntmps38
      go_wp2_with (first | ((with_reducible refine gate_callee (f := 33) rfl ?_); (with_reducible refine gate_dst (N := 14) rfl ?_); refine goesL_ (some 14) rfl rfl Try.func33 (by kernel_rfl) rfl #[.slice A0 l0.length c0, .int .i64 a1, .int .i64 a2] rfl (by (try simp only [List.map_toArray, List.map_cons, List.map_nil]); first | done | rfl | (simp only [List.length_drop, List.length_take]; rfl)) ?_; (with_reducible refine (impl_gameAt.calls k _ _ l0 a1 a2 false t221 t222 false _ ?sd0 ?sd1 A1_.out).mono ?_); (case sd0 => exact (Kd.C_below HR0.out HM.out.below)); (case sd1 => exact HC0.out); rintro e_ w9_ ⟨vv0_, rfl, ho0_, ho1_, hb⟩; refine ⟨_, rfl, ?_⟩; have HLt222 := Aside0.mk ho1_; have ev_ := PtrTo.no ho0_; subst ev_; have n_ := Aside0.mk (HM.out.step hb); clear HM; have HM := n_; clear n_; clear hb ho0_ ho1_))
      go_ret2
      exact ⟨_, by first | rfl | (simp; done) | (simp [*]; done), Kd.R_nil _ _ _ _ _, HM.out.below⟩

/-! ### impl_CanKeep: function 17 -/
def impl_CanKeep.f (k : Nat) (l0 : List Int) (a1 : Int) (a2 : Int) : Option (Bool × Bool) := (impl_KeepMoves.f k l0 a1 a2).bind fun bt225 => (some (decide ((bt225.1.length : Int) > 0), bt225.2))
set_option maxHeartbeats 8000000 in
set_option maxRecDepth 100000 in
theorem impl_CanKeep.calls (k : Nat) (A0 : Option Addr) (c0 : Nat) (l0 : List Int) (a1 : Int) (a2 : Int) (r1 : Bool) (r2 : Bool) (w : World) (hr0 : Kd.C (Kd.int .i64) w A0 l0.length l0) (hc0 : l0.length ≤ c0) (h : impl_CanKeep.f k l0 a1 a2 = some (r1, r2)) :
    Calls Try.prog 17 #[.slice A0 l0.length c0, .int .i64 a1, .int .i64 a2] w fun e w' => e = .returned (.tuple #[.bool r1, .bool r2]) ∧ Below w.heap.size w w' := by
  have HR0 := Aside0.mk hr0
  have HC0 := Aside0.mk hc0
  clear hr0 hc0
  have HM := Aside0.mk (MS.start w)
  have H : ((impl_KeepMoves.f k l0 a1 a2).bind fun bt225 => (some (decide ((bt225.1.length : Int) > 0), bt225.2))) = some (r1, r2) := h
  clear h
  replace H := Option.bind_eq_some_iff.mp H
  obtain ⟨⟨t225, t226⟩, A1_0, H⟩ := H
  replace H : (some (decide ((t225.length : Int) > 0), t226)) = some (r1, r2) := H
  have A1_ := Aside0.mk A1_0
  clear A1_0
  simp only [Option.some.injEq, Prod.mk.injEq] at H
  obtain ⟨rfl, rfl⟩ := H
  go_enter Try.func17, Try.ntmps17
  go_wp2_with (first | ((with_reducible refine gate_callee (f := 38) rfl ?_); (with_reducible refine gate_dst (N := 14) rfl ?_); refine goesL_ (some 14) rfl rfl Try.func38 (by kernel_rfl) rfl #[.slice A0 l0.length c0, .int .i64 a1, .int .i64 a2] rfl (by (try simp only [List.map_toArray, List.map_cons, List.map_nil]); first | done | rfl | (simp only [List.length_drop, List.length_take]; rfl)) ?_; (with_reducible refine (impl_KeepMoves.calls k _ _ l0 a1 a2 t225 t226 _ ?sd0 ?sd1 A1_.out).mono ?_); (case sd0 => exact (Kd.C_below HR0.out HM.out.below)); (case sd1 => exact HC0.out); rintro e_ w2_ ⟨vv0_, rfl, ho0_, hb⟩; refine ⟨_, rfl, ?_⟩; obtain ⟨Ao1_0, co1_0, ev_⟩ := Kd.R_slice ho0_; subst ev_; have n_ := Aside0.mk (HM.out.addR hb ho0_); clear HM; have HM := n_; clear n_; clear hb ho0_))
  go_ret2
  exact ⟨by first | rfl | (simp; done) | (simp [*]; done), HM.out.below⟩

/-! ### impl_game_safe_1: function 53 -/
def impl_game_safe_1.f (a0 : Int) (a1_0 : Int) (l1_1 : List Bool) : Option (Bool) := if 0 ≤ a0 then (if a0 < 64 then (some (!(rdOf false l1_1 a0))) else (none)) else (none)
set_option maxHeartbeats 8000000 in
set_option maxRecDepth 100000 in
theorem impl_game_safe_1.calls (a0 : Int) (gb1 : Nat) (gb2 : Nat) (a1_0 : Int) (l1_1 : List Bool) (r : Bool) (w : World) (hl1_1 : l1_1.length = 64) (hq2 : w.heap[gb2]? = some (.cells (#[.int .i64 a1_0] ++ (bcs l1_1)) 46 (0, 0))) (hq1 : w.heap[gb1]? = some (.cells #[.pointer (some ⟨gb2, 0, none⟩)] 40 (0, 0))) (h : impl_game_safe_1.f a0 a1_0 l1_1 = some r) :
    Calls Try.prog 53 #[.int .i64 a0, .pointer (some ⟨gb1, 0, none⟩)] w fun e w' => e = .returned (.bool r) ∧ Drawn0 w w' := by
  have HL1_1 := Aside0.mk hl1_1
  clear hl1_1
  have HQ2 := Aside0.mk hq2
  clear hq2
  have HQ1 := Aside0.mk hq1
  clear hq1
  have hu44 := Try.underlying44
  have hu46 := Try.underlying46
  have HM := Aside0.mk (MS.start w)
  have HD := Aside0.mk (Drawn0.refl w)
  have H : (if 0 ≤ a0 then (if a0 < 64 then (some (!(rdOf false l1_1 a0))) else (none)) else (none)) = some r := h
  clear h
  by_cases c1_ : 0 ≤ a0
  · rw [if_pos c1_] at H
    have c1_b0 : decide (0 ≤ a0) = true := decide_eq_true c1_
    clear c1_
    by_cases c2_ : a0 < 64
    · rw [if_pos c2_] at H
      have c2_b0 : decide (a0 < 64) = true := decide_eq_true c2_
      clear c2_
      obtain rfl := Option.some.inj H
      have hcz3_0 : w.cell? ⟨gb1, 0, none⟩ = some (.pointer (some ⟨gb2, 0, none⟩)) := (blk_cell (blk_below HQ1.out HM.out.below) 0).trans rfl
      have hfz3_0 := blk_frozen (blk_below HQ1.out HM.out.below) 0
      have p227 : 0 ≤ (a0 : Int) := of_decide_eq_true (by first | (with_reducible assumption) | assumption)
      have q227 : (a0 : Int) < 64 := of_decide_eq_true (by first | (with_reducible assumption) | assumption)
      have hx227 := fcellB (blk_below HQ2.out HM.out.below) 1 rfl a0 p227 (by have := HL1_1.out; omega)
      replace p227 := eq_true p227
      replace q227 := eq_true q227
      go_enter Try.func53, Try.ntmps53
      go_wp2
      go_ret
      exact ⟨by first | rfl | (simp; done) | (simp [*]; done), HD.out⟩
    · rw [if_neg c2_] at H
      have c2_b0 : decide (a0 < 64) = false := decide_eq_false c2_
      clear c2_
      exact absurd H (by simp)
  · rw [if_neg c1_] at H
    have c1_b0 : decide (0 ≤ a0) = false := decide_eq_false c1_
    clear c1_
    exact absurd H (by simp)

/-! ### impl_game_safe: function 40 -/
def impl_game_safe.f (k : Nat) (a0_0 : Int) (l0_1 : List Bool) (a1 : Int) : Option (List Int) := (impl_game_that.f k a0_0 l0_1 a1 (fun x_ => impl_game_safe_1.f x_ a0_0 l0_1)).bind fun t229 => (some t229)
set_option maxHeartbeats 8000000 in
set_option maxRecDepth 100000 in
theorem impl_game_safe.calls (k : Nat) (gb1 : Nat) (a0_0 : Int) (l0_1 : List Bool) (a1 : Int) (r : List Int) (w : World) (hl0_1 : l0_1.length = 64) (hq1 : w.heap[gb1]? = some (.cells (#[.int .i64 a0_0] ++ (bcs l0_1)) 46 (0, 0))) (h : impl_game_safe.f k a0_0 l0_1 a1 = some r) :
    Calls Try.prog 40 #[.pointer (some ⟨gb1, 0, none⟩), .int .i64 a1] w fun e w' => ∃ v0_ : Value, e = .returned (v0_) ∧ Kd.R (Kd.int .i64) 3 w' w.heap.size (fun _ => True) v0_ r ∧ Below w.heap.size w w' := by
  have HL0_1 := Aside0.mk hl0_1
  clear hl0_1
  have HQ1 := Aside0.mk hq1
  clear hq1
  have HM := Aside0.mk (MS.start w)
  have H : ((impl_game_that.f k a0_0 l0_1 a1 (fun x_ => impl_game_safe_1.f x_ a0_0 l0_1)).bind fun t229 => (some t229)) = some r := h
  clear h
  replace H := Option.bind_eq_some_iff.mp H
  obtain ⟨t229, A1_0, H⟩ := H
  replace H : (some t229) = some r := H
  have A1_ := Aside0.mk A1_0
  clear A1_0
  obtain rfl := Option.some.inj H
  go_enter Try.func40, Try.ntmps40
  go_wp2_with (first | ((with_reducible refine gate_dst (N := 2) rfl ?_); refine box_event ?hg (N := 2) ?hd (cs := #[.pointer (some ⟨gb1, 0, none⟩)]) (t := 40) ?hr ?_; (case hd => rfl); (case hg => rfl); (case hr => first | (go_simp; done) | (go_simp; rfl)); intro gb2 hg w2_ hbox hb; have n_ := Aside0.mk (HM.out.addBox hb hbox hg); clear HM; have HM := n_; clear n_; clear hb hbox hg; have hcz3_0 : w2_.cell? ⟨gb2, 0, none⟩ = some (.pointer (some ⟨gb1, 0, none⟩)) := (blk_cell (HM.out.box 0 rfl) 0).trans rfl; have hfz3_0 := blk_frozen (HM.out.box 0 rfl) 0; have fv228 := Aside0.mk (show FnB Try.prog w2_ (.func (.func 53) #[] #[.pointer (some ⟨gb2, 0, none⟩)]) (fun x_ => impl_game_safe_1.f x_ a0_0 l0_1) from FnB.mk Try.func53 rfl rfl (fun W_ hW_ x_ r_ hr_ => (show Calls Try.prog 53 #[.int .i64 x_, .pointer (some ⟨gb2, 0, none⟩)] W_ _ from drawn_calls (impl_game_safe_1.calls x_ _ _ a0_0 l0_1 r_ W_ HL0_1.out (blk_below HQ1.out (below_step HM.out.below hW_)) (blk_below (HM.out.box 0 rfl) hW_) hr_))))) | ((with_reducible refine gate_callee (f := 52) rfl ?_); (with_reducible refine gate_dst (N := 8) rfl ?_); refine goesL_ (some 8) rfl rfl Try.func52 (by kernel_rfl) rfl #[.pointer (some ⟨gb1, 0, none⟩), .int .i64 a1, .func (.func 53) #[] #[.pointer (some ⟨gb2, 0, none⟩)]] rfl (by (try simp only [List.map_toArray, List.map_cons, List.map_nil]); first | done | rfl | (simp only [List.length_drop, List.length_take]; rfl)) ?_; (with_reducible refine (impl_game_that.calls k _ a0_0 l0_1 a1 _ (fun x_ => impl_game_safe_1.f x_ a0_0 l0_1) t229 _ ?sd0 ?sd1 ?sd2 A1_.out).mono ?_); (case sd0 => exact HL0_1.out); (case sd1 => exact (blk_below HQ1.out HM.out.below)); (case sd2 => exact fv228.out); rintro e_ w4_ ⟨vv0_, rfl, ho0_, hb⟩; refine ⟨_, rfl, ?_⟩; obtain ⟨Ao3_0, co3_0, ev_⟩ := Kd.R_slice ho0_; subst ev_; have n_ := Aside0.mk (HM.out.addR hb ho0_); clear HM; have HM := n_; clear n_; clear hb ho0_))
  go_ret
  exact ⟨_, by first | rfl | (simp; done) | (simp [*]; done), HM.out.R 0 rfl, HM.out.below⟩

/-! ### impl_SafeNails: function 19 -/
def impl_SafeNails.f (k : Nat) (l0 : List Int) (a1 : Int) (a2 : Int) : Option (List Int × Bool) := (impl_gameAt.f k l0 a1 a2).bind fun bt230 => (if bt230.1 = true then (if bt230.2.2.2 = true then ((impl_game_safe.f k bt230.2.1 bt230.2.2.1 a2).bind fun t234 => (some (t234, true))) else (some ([], false))) else (if bt230.2.2.2 = true then (none) else (some ([], false))))
set_option maxHeartbeats 8000000 in
set_option maxRecDepth 100000 in
theorem impl_SafeNails.calls (k : Nat) (A0 : Option Addr) (c0 : Nat) (l0 : List Int) (a1 : Int) (a2 : Int) (r1 : List Int) (r2 : Bool) (w : World) (hr0 : Kd.C (Kd.int .i64) w A0 l0.length l0) (hc0 : l0.length ≤ c0) (h : impl_SafeNails.f k l0 a1 a2 = some (r1, r2)) :
    Calls Try.prog 19 #[.slice A0 l0.length c0, .int .i64 a1, .int .i64 a2] w fun e w' => ∃ v0_ : Value, e = .returned (.tuple #[v0_, .bool r2]) ∧ Kd.R (Kd.int .i64) 3 w' w.heap.size (fun _ => True) v0_ r1 ∧ Below w.heap.size w w' := by
  have HR0 := Aside0.mk hr0
  have HC0 := Aside0.mk hc0
  clear hr0 hc0
  have HM := Aside0.mk (MS.start w)
  have H : ((impl_gameAt.f k l0 a1 a2).bind fun bt230 => (if bt230.1 = true then (if bt230.2.2.2 = true then ((impl_game_safe.f k bt230.2.1 bt230.2.2.1 a2).bind fun t234 => (some (t234, true))) else (some ([], false))) else (if bt230.2.2.2 = true then (none) else (some ([], false))))) = some (r1, r2) := h
  clear h
  replace H := Option.bind_eq_some_iff.mp H
  obtain ⟨⟨t230, t231, t232, t233⟩, A1_0, H⟩ := H
  replace H : (if t230 = true then (if t233 = true then ((impl_game_safe.f k t231 t232 a2).bind fun t234 => (some (t234, true))) else (some ([], false))) else (if t233 = true then (none) else (some ([], false)))) = some (r1, r2) := H
  have A1_ := Aside0.mk A1_0
  clear A1_0
  by_cases c2_ : t230 = true
  · subst c2_
    have H1 : (if t233 = true then ((impl_game_safe.f k t231 t232 a2).bind fun t234 => (some (t234, true))) else (some ([], false))) = some (r1, r2) := by rw [if_pos rfl] at H; exact H
    clear H
    have H := H1
    clear H1
    by_cases c3_ : t233 = true
    · subst c3_
      have H1 : ((impl_game_safe.f k t231 t232 a2).bind fun t234 => (some (t234, true))) = some (r1, r2) := by rw [if_pos rfl] at H; exact H
      clear H
      have H := H1
      clear H1
      replace H := Option.bind_eq_some_iff.mp H
      obtain ⟨t234, A4_0, H⟩ := H
      replace H : (some (t234, true)) = some (r1, r2) := H
      have A4_ := Aside0.mk A4_0
      clear A4_0
      simp only [Option.some.injEq, Prod.mk.injEq] at H
      obtain ⟨rfl, rfl⟩ := H
      go_enter Try.func19, Try.ntmps19
      go_wp2_with (first | ((with_reducible refine gate_callee (f := 33) rfl ?_); (with_reducible refine gate_dst (N := 14) rfl ?_); refine goesL_ (some 14) rfl rfl Try.func33 (by kernel_rfl) rfl #[.slice A0 l0.length c0, .int .i64 a1, .int .i64 a2] rfl (by (try simp only [List.map_toArray, List.map_cons, List.map_nil]); first | done | rfl | (simp only [List.length_drop, List.length_take]; rfl)) ?_; (with_reducible refine (impl_gameAt.calls k _ _ l0 a1 a2 true t231 t232 true _ ?sd0 ?sd1 A1_.out).mono ?_); (case sd0 => exact (Kd.C_below HR0.out HM.out.below)); (case sd1 => exact HC0.out); rintro e_ w5_ ⟨vv0_, rfl, ho0_, ho1_, hb⟩; refine ⟨_, rfl, ?_⟩; have HLt232 := Aside0.mk ho1_; obtain ⟨gb1, ev_, hbx_, hge_⟩ := PtrTo.yes ho0_; subst ev_; have n_ := Aside0.mk (HM.out.addPtr hb hbx_ hge_); clear HM; have HM := n_; clear n_; clear hbx_ hge_; clear hb ho0_ ho1_) | ((with_reducible refine gate_callee (f := 40) rfl ?_); (with_reducible refine gate_dst (N := 21) rfl ?_); refine goesL_ (some 21) rfl rfl Try.func40 (by kernel_rfl) rfl #[.pointer (some ⟨gb1, 0, none⟩), .int .i64 a2] rfl (by (try simp only [List.map_toArray, List.map_cons, List.map_nil]); first | done | rfl | (simp only [List.length_drop, List.length_take]; rfl)) ?_; (with_reducible refine (impl_game_safe.calls k _ t231 t232 a2 t234 _ ?sd0 ?sd1 A4_.out).mono ?_); (case sd0 => exact HLt232.out); (case sd1 => exact (HM.out.box 0 rfl)); rintro e_ w6_ ⟨vv0_, rfl, ho0_, hb⟩; refine ⟨_, rfl, ?_⟩; obtain ⟨Ao2_0, co2_0, ev_⟩ := Kd.R_slice ho0_; subst ev_; have n_ := Aside0.mk (HM.out.addR hb ho0_); clear HM; have HM := n_; clear n_; clear hb ho0_))
      go_ret2
      exact ⟨_, by first | rfl | (simp; done) | (simp [*]; done), HM.out.R 0 rfl, HM.out.below⟩
    · replace c3_ := Bool.eq_false_iff.mpr c3_
      subst c3_
      have H1 : (some ([], false)) = some (r1, r2) := by rw [if_neg (show ¬ (false = true) by decide)] at H; exact H
      clear H
      have H := H1
      clear H1
      simp only [Option.some.injEq, Prod.mk.injEq] at H
      obtain ⟨rfl, rfl⟩ := H
      go_enter Try.func19, Try.ntmps19
      go_wp2_with (first | ((with_reducible refine gate_callee (f := 33) rfl ?_); (with_reducible refine gate_dst (N := 14) rfl ?_); refine goesL_ (some 14) rfl rfl Try.func33 (by kernel_rfl) rfl #[.slice A0 l0.length c0, .int .i64 a1, .int .i64 a2] rfl (by (try simp only [List.map_toArray, List.map_cons, List.map_nil]); first | done | rfl | (simp only [List.length_drop, List.length_take]; rfl)) ?_; (with_reducible refine (impl_gameAt.calls k _ _ l0 a1 a2 true t231 t232 false _ ?sd0 ?sd1 A1_.out).mono ?_); (case sd0 => exact (Kd.C_below HR0.out HM.out.below)); (case sd1 => exact HC0.out); rintro e_ w7_ ⟨vv0_, rfl, ho0_, ho1_, hb⟩; refine ⟨_, rfl, ?_⟩; have HLt232 := Aside0.mk ho1_; obtain ⟨gb1, ev_, hbx_, hge_⟩ := PtrTo.yes ho0_; subst ev_; have n_ := Aside0.mk (HM.out.addPtr hb hbx_ hge_); clear HM; have HM := n_; clear n_; clear hbx_ hge_; clear hb ho0_ ho1_))
      go_ret2
      exact ⟨_, by first | rfl | (simp; done) | (simp [*]; done), Kd.R_nil _ _ _ _ _, HM.out.below⟩
  · replace c2_ := Bool.eq_false_iff.mpr c2_
    subst c2_
    have H1 : (if t233 = true then (none) else (some ([], false))) = some (r1, r2) := by rw [if_neg (show ¬ (false = true) by decide)] at H; exact H
    clear H
    have H := H1
    clear H1
    by_cases c8_ : t233 = true
    · subst c8_
      have H1 : (none) = some (r1, r2) := by rw [if_pos rfl] at H; exact H
      clear H
      have H := H1
      clear H1
      exact absurd H (by simp)
    · replace c8_ := Bool.eq_false_iff.mpr c8_
      subst c8_
      have H1 : (some ([], false)) = some (r1, r2) := by rw [if_neg (show ¬ (false = true) by decide)] at H; exact H
      clear H
      have H := H1
      clear H1
      simp only [Option.some.injEq, Prod.mk.injEq] at H
      obtain ⟨rfl, rfl⟩ := H
      go_enter Try.func19, Try.ntmps19
      go_wp2_with (first | ((with_reducible refine gate_callee (f := 33) rfl ?_); (with_reducible refine gate_dst (N := 14) rfl ?_); refine goesL_ (some 14) rfl rfl Try.func33 (by kernel_rfl) rfl #[.slice A0 l0.length c0, .int .i64 a1, .int .i64 a2] rfl (by (try simp only [List.map_toArray, List.map_cons, List.map_nil]); first | done | rfl | (simp only [List.length_drop, List.length_take]; rfl)) ?_; (with_reducible refine (impl_gameAt.calls k _ _ l0 a1 a2 false t231 t232 false _ ?sd0 ?sd1 A1_.out).mono ?_); (case sd0 => exact (Kd.C_below HR0.out HM.out.below)); (case sd1 => exact HC0.out); rintro e_ w9_ ⟨vv0_, rfl, ho0_, ho1_, hb⟩; refine ⟨_, rfl, ?_⟩; have HLt232 := Aside0.mk ho1_; have ev_ := PtrTo.no ho0_; subst ev_; have n_ := Aside0.mk (HM.out.step hb); clear HM; have HM := n_; clear n_; clear hb ho0_ ho1_))
      go_ret2
      exact ⟨_, by first | rfl | (simp; done) | (simp [*]; done), Kd.R_nil _ _ _ _ _, HM.out.below⟩

/-! ### impl_game_length: function 42 -/
mutual
def impl_game_length.l0 : Nat → (Int) → (Int → Int → Option Int) → (Int) → (Int) → (Int) → (List Int) → (Int) → (List Bool) → Option (Int)
  | 0, _, _, _, _, _, _, _, _ => none
  | k + 1, x1, x2, x7, x15, x16, m2, m1_0, m1_1 => if x16 < x15 then (if 0 ≤ x16 then (if x16 < (m2.length : Int) then ((impl_nailBit.f (rd m2 x16)).bind fun t237 => (if 0 ≤ (Go.bits .or .i64 x1 t237) then (if (Go.bits .or .i64 x1 t237) < 64 then (if rdOf false m1_1 (Go.bits .or .i64 x1 t237) = true then (if x16 = 0 then ((x2 1 1).bind fun t239 => (impl_game_length.l0 k x1 x2 t239 x15 (wrap64 (x16 + 1)) m2 m1_0 m1_1)) else ((x2 x7 1).bind fun t240 => (impl_game_length.l0 k x1 x2 t240 x15 (wrap64 (x16 + 1)) m2 m1_0 m1_1))) else ((impl_game_length.f k m1_0 m1_1 (Go.bits .or .i64 x1 t237) x2).bind fun t241 => (if x16 = 0 then ((x2 (wrap64 (1 + t241)) (wrap64 (1 + t241))).bind fun t242 => (impl_game_length.l0 k x1 x2 t242 x15 (wrap64 (x16 + 1)) m2 m1_0 m1_1)) else ((x2 x7 (wrap64 (1 + t241))).bind fun t243 => (impl_game_length.l0 k x1 x2 t243 x15 (wrap64 (x16 + 1)) m2 m1_0 m1_1))))) else (none)) else (none))) else (none)) else (none)) else (some x7)
def impl_game_length.f : Nat → (Int) → (List Bool) → (Int) → (Int → Int → Option Int) → Option (Int)
  | 0, _, _, _, _ => none
  | k + 1, a0_0, l0_1, a1, g2 => (impl_game_in.f k a0_0 l0_1 a1).bind fun t235 => (impl_game_length.l0 k a1 g2 0 (t235.length : Int) 0 t235 a0_0 l0_1)
end
set_option maxHeartbeats 8000000 in
set_option maxRecDepth 100000 in
theorem impl_game_length.calls (k : Nat) : ∀ (gb1 : Nat) (a0_0 : Int) (l0_1 : List Bool) (a1 : Int) (F2 : Value) (g2 : Int → Int → Option Int) (r : Int) (w : World) (hl0_1 : l0_1.length = 64) (hq1 : w.heap[gb1]? = some (.cells (#[.int .i64 a0_0] ++ (bcs l0_1)) 46 (0, 0))) (hf2 : FnI2 Try.prog w F2 g2) (h : impl_game_length.f k a0_0 l0_1 a1 g2 = some r),
    Calls Try.prog 42 #[.pointer (some ⟨gb1, 0, none⟩), .int .i64 a1, F2] w fun e w' => e = .returned (.int .i64 r) ∧ Below w.heap.size w w' := by
  induction k using Nat.strongRecOn with
  | _ k ih =>
  intro gb1 a0_0 l0_1 a1 F2 g2 r w hl0_1 hq1 hf2 h
  cases k with
  | zero => exact absurd h (by simp [impl_game_length.f])
  | succ k =>
  simp only [impl_game_length.f] at h
  have HL0_1 := Aside0.mk hl0_1
  clear hl0_1
  have HQ1 := Aside0.mk hq1
  clear hq1
  have HF2 := Aside0.mk hf2
  clear hf2
  have hu22 := Try.underlying22
  have hu44 := Try.underlying44
  have hu46 := Try.underlying46
  have HM := Aside0.mk (MS.start w)
  have H : ((impl_game_in.f k a0_0 l0_1 a1).bind fun t235 => (impl_game_length.l0 k a1 g2 0 (t235.length : Int) 0 t235 a0_0 l0_1)) = some r := h
  clear h
  replace H := Option.bind_eq_some_iff.mp H
  obtain ⟨t235, A1_0, H⟩ := H
  replace H : (impl_game_length.l0 k a1 g2 0 (t235.length : Int) 0 t235 a0_0 l0_1) = some r := H
  have A1_ := Aside0.mk A1_0
  clear A1_0
  have H' := Aside0.mk H
  clear H
  go_enter Try.func42, Try.ntmps42
  go_wp2_with (first | ((with_reducible refine gate_callee (f := 54) rfl ?_); (with_reducible refine gate_dst (N := 14) rfl ?_); refine goesL_ (some 14) rfl rfl Try.func54 (by kernel_rfl) rfl #[.pointer (some ⟨gb1, 0, none⟩), .int .i64 a1] rfl (by (try simp only [List.map_toArray, List.map_cons, List.map_nil]); first | done | rfl | (simp only [List.length_drop, List.length_take]; rfl)) ?_; (with_reducible refine (impl_game_in.calls k _ a0_0 l0_1 a1 t235 _ ?sd0 ?sd1 A1_.out).mono ?_); (case sd0 => exact HL0_1.out); (case sd1 => exact (blk_below HQ1.out HM.out.below)); rintro e_ w2_ ⟨vv0_, rfl, ho0_, hb⟩; refine ⟨_, rfl, ?_⟩; obtain ⟨Ao2_0, co2_0, ev_⟩ := Kd.R_slice ho0_; subst ev_; have n_ := Aside0.mk (HM.out.addR hb ho0_); clear HM; have HM := n_; clear n_; clear hb ho0_))
  go_loopg [7, 16] k (fun kq v7 v16 w' => ∃ (x7_3 : Int) (x16_3 : Int), v7 = .int .i64 x7_3 ∧ v16 = .int .i64 x16_3 ∧ Aside0 (impl_game_length.l0 kq a1 g2 x7_3 (t235.length : Int) x16_3 t235 a0_0 l0_1 = some r) ∧ Aside0 (kq ≤ k) ∧ Aside0 (MS w w' [.row 3 (.slice Ao2_0 t235.length co2_0) (encs (Value.int .i64) t235)]))
  case atStart => exact ⟨(0), (0), (by first | rfl | (simp; done) | (simp [*]; done)), (by first | rfl | (simp; done) | (simp [*]; done)), H', ⟨Nat.le_refl _⟩, HM⟩
  case round =>
    clear H'
    clear HM
    obtain ⟨x7_3, x16_3, rfl, rfl, HA, HK4_, HM⟩ := hrel
    cases gk with
    | zero => exact absurd HA.out (by simp [impl_game_length.l0])
    | succ k5_ =>
      have H := HA.out
      clear HA
      simp only [impl_game_length.l0] at H
      by_cases c6_ : x16_3 < (t235.length : Int)
      · rw [if_pos c6_] at H
        have c6_b0 : decide (x16_3 < (t235.length : Int)) = true := decide_eq_true c6_
        clear c6_
        by_cases c7_ : 0 ≤ x16_3
        · rw [if_pos c7_] at H
          have c7_b0 : decide (0 ≤ x16_3) = true := decide_eq_true c7_
          clear c7_
          by_cases c8_ : x16_3 < (t235.length : Int)
          · rw [if_pos c8_] at H
            have c8_b0 : decide (x16_3 < (t235.length : Int)) = true := decide_eq_true c8_
            clear c8_
            replace H := Option.bind_eq_some_iff.mp H
            obtain ⟨t237, A9_0, H⟩ := H
            replace H : (if 0 ≤ (Go.bits .or .i64 a1 t237) then (if (Go.bits .or .i64 a1 t237) < 64 then (if rdOf false l0_1 (Go.bits .or .i64 a1 t237) = true then (if x16_3 = 0 then ((g2 1 1).bind fun t239 => (impl_game_length.l0 k5_ a1 g2 t239 (t235.length : Int) (wrap64 (x16_3 + 1)) t235 a0_0 l0_1)) else ((g2 x7_3 1).bind fun t240 => (impl_game_length.l0 k5_ a1 g2 t240 (t235.length : Int) (wrap64 (x16_3 + 1)) t235 a0_0 l0_1))) else ((impl_game_length.f k5_ a0_0 l0_1 (Go.bits .or .i64 a1 t237) g2).bind fun t241 => (if x16_3 = 0 then ((g2 (wrap64 (1 + t241)) (wrap64 (1 + t241))).bind fun t242 => (impl_game_length.l0 k5_ a1 g2 t242 (t235.length : Int) (wrap64 (x16_3 + 1)) t235 a0_0 l0_1)) else ((g2 x7_3 (wrap64 (1 + t241))).bind fun t243 => (impl_game_length.l0 k5_ a1 g2 t243 (t235.length : Int) (wrap64 (x16_3 + 1)) t235 a0_0 l0_1))))) else (none)) else (none)) = some r := H
            have A9_ := Aside0.mk A9_0
            clear A9_0
            by_cases c10_ : 0 ≤ (Go.bits .or .i64 a1 t237)
            · rw [if_pos c10_] at H
              have c10_b0 : decide (0 ≤ (Go.bits .or .i64 a1 t237)) = true := decide_eq_true c10_
              clear c10_
              by_cases c11_ : (Go.bits .or .i64 a1 t237) < 64
              · rw [if_pos c11_] at H
                have c11_b0 : decide ((Go.bits .or .i64 a1 t237) < 64) = true := decide_eq_true c11_
                clear c11_
                by_cases c12_ : rdOf false l0_1 (Go.bits .or .i64 a1 t237) = true
                · rw [if_pos c12_] at H
                  have c12_b0 : rdOf false l0_1 (Go.bits .or .i64 a1 t237) = true := c12_
                  clear c12_
                  by_cases c13_ : x16_3 = 0
                  · rw [if_pos c13_] at H
                    have c13_b0 : (x16_3 == 0) = true := beq_iff_eq.mpr c13_
                    have c13_b1 : (x16_3 != 0) = false := bne_eq_false_iff_eq.mpr c13_
                    clear c13_
                    replace H := Option.bind_eq_some_iff.mp H
                    obtain ⟨t239, A14_0, H⟩ := H
                    replace H : (impl_game_length.l0 k5_ a1 g2 t239 (t235.length : Int) (wrap64 (x16_3 + 1)) t235 a0_0 l0_1) = some r := H
                    have A14_ := Aside0.mk A14_0
                    clear A14_0
                    have H' := Aside0.mk H
                    clear H
                    have p236 : 0 ≤ (x16_3 : Int) := of_decide_eq_true (by first | (with_reducible assumption) | assumption)
                    have q236 : (x16_3 : Int) < (t235.length : Int) := of_decide_eq_true (by first | (with_reducible assumption) | assumption)
                    obtain ⟨ad236, e236, hx236⟩ := Kd.at_int (Kd.R_reads' (HM.out.R (h1 := fun _ => rfl) 0 rfl)).2.2 x16_3 p236 q236
                    cases e236
                    replace p236 := eq_true p236
                    replace q236 := eq_true q236
                    go_wp2_with (first | ((with_reducible refine gate_callee (f := 34) rfl ?_); (with_reducible refine gate_dst (N := 23) rfl ?_); refine goesL_ (some 23) rfl rfl Try.func34 (by kernel_rfl) rfl #[.int .i64 (rd t235 x16_3)] rfl (by (try simp only [List.map_toArray, List.map_cons, List.map_nil]); first | done | rfl | (simp only [List.length_drop, List.length_take]; rfl)) ?_; (with_reducible refine (impl_nailBit.calls (rd t235 x16_3) t237 _  A9_.out).mono ?_); rintro e_ w15_ ⟨rfl, hd_⟩; refine ⟨_, rfl, ?_⟩; have hb := hd_.below; clear hd_; have n_ := Aside0.mk (HM.out.step hb); clear HM; have HM := n_; clear n_; clear hb; have p238 : 0 ≤ (Go.bits .or .i64 a1 t237 : Int) := of_decide_eq_true (by first | (with_reducible assumption) | assumption); have q238 : (Go.bits .or .i64 a1 t237 : Int) < 64 := of_decide_eq_true (by first | (with_reducible assumption) | assumption); have hx238 := fcellB (blk_below HQ1.out HM.out.below) 1 rfl (Go.bits .or .i64 a1 t237) p238 (by have := HL0_1.out; omega); replace p238 := eq_true p238; replace q238 := eq_true q238) | ((with_reducible refine gate_dst (N := 44) rfl ?_); refine goesI2 (some 44) rfl rfl (V := F2) (g := g2) (x1 := 1) (x2 := 1) (r := t239) rfl rfl rfl rfl (FnI2.below HF2.out HM.out.below) A14_.out ?_; intro w16_ hb; have n_ := Aside0.mk (HM.out.step hb); clear HM; have HM := n_; clear n_; clear hb))
                    go_roundg k5_
                    case measure => have hHK4__ := HK4_.out; omega
                    case rel => exact ⟨(t239), (wrap64 (x16_3 + 1)), (by first | rfl | (simp; done) | (simp [*]; done)), (by first | rfl | (simp; done) | (simp [*]; done)), H', ⟨by have hHK4__ := HK4_.out; omega⟩, HM⟩
                  · rw [if_neg c13_] at H
                    have c13_b0 : (x16_3 == 0) = false := beq_eq_false_iff_ne.mpr c13_
                    have c13_b1 : (x16_3 != 0) = true := bne_iff_ne.mpr c13_
                    clear c13_
                    replace H := Option.bind_eq_some_iff.mp H
                    obtain ⟨t240, A17_0, H⟩ := H
                    replace H : (impl_game_length.l0 k5_ a1 g2 t240 (t235.length : Int) (wrap64 (x16_3 + 1)) t235 a0_0 l0_1) = some r := H
                    have A17_ := Aside0.mk A17_0
                    clear A17_0
                    have H' := Aside0.mk H
                    clear H
                    have p236 : 0 ≤ (x16_3 : Int) := of_decide_eq_true (by first | (with_reducible assumption) | assumption)
                    have q236 : (x16_3 : Int) < (t235.length : Int) := of_decide_eq_true (by first | (with_reducible assumption) | assumption)
                    obtain ⟨ad236, e236, hx236⟩ := Kd.at_int (Kd.R_reads' (HM.out.R (h1 := fun _ => rfl) 0 rfl)).2.2 x16_3 p236 q236
                    cases e236
                    replace p236 := eq_true p236
                    replace q236 := eq_true q236
                    go_wp2_with (first | ((with_reducible refine gate_callee (f := 34) rfl ?_); (with_reducible refine gate_dst (N := 23) rfl ?_); refine goesL_ (some 23) rfl rfl Try.func34 (by kernel_rfl) rfl #[.int .i64 (rd t235 x16_3)] rfl (by (try simp only [List.map_toArray, List.map_cons, List.map_nil]); first | done | rfl | (simp only [List.length_drop, List.length_take]; rfl)) ?_; (with_reducible refine (impl_nailBit.calls (rd t235 x16_3) t237 _  A9_.out).mono ?_); rintro e_ w18_ ⟨rfl, hd_⟩; refine ⟨_, rfl, ?_⟩; have hb := hd_.below; clear hd_; have n_ := Aside0.mk (HM.out.step hb); clear HM; have HM := n_; clear n_; clear hb; have p238 : 0 ≤ (Go.bits .or .i64 a1 t237 : Int) := of_decide_eq_true (by first | (with_reducible assumption) | assumption); have q238 : (Go.bits .or .i64 a1 t237 : Int) < 64 := of_decide_eq_true (by first | (with_reducible assumption) | assumption); have hx238 := fcellB (blk_below HQ1.out HM.out.below) 1 rfl (Go.bits .or .i64 a1 t237) p238 (by have := HL0_1.out; omega); replace p238 := eq_true p238; replace q238 := eq_true q238) | ((with_reducible refine gate_dst (N := 44) rfl ?_); refine goesI2 (some 44) rfl rfl (V := F2) (g := g2) (x1 := x7_3) (x2 := 1) (r := t240) rfl rfl rfl rfl (FnI2.below HF2.out HM.out.below) A17_.out ?_; intro w19_ hb; have n_ := Aside0.mk (HM.out.step hb); clear HM; have HM := n_; clear n_; clear hb))
                    go_roundg k5_
                    case measure => have hHK4__ := HK4_.out; omega
                    case rel => exact ⟨(t240), (wrap64 (x16_3 + 1)), (by first | rfl | (simp; done) | (simp [*]; done)), (by first | rfl | (simp; done) | (simp [*]; done)), H', ⟨by have hHK4__ := HK4_.out; omega⟩, HM⟩
                · rw [if_neg c12_] at H
                  have c12_b0 : rdOf false l0_1 (Go.bits .or .i64 a1 t237) = false := by simpa using c12_
                  clear c12_
                  replace H := Option.bind_eq_some_iff.mp H
                  obtain ⟨t241, A20_0, H⟩ := H
                  replace H : (if x16_3 = 0 then ((g2 (wrap64 (1 + t241)) (wrap64 (1 + t241))).bind fun t242 => (impl_game_length.l0 k5_ a1 g2 t242 (t235.length : Int) (wrap64 (x16_3 + 1)) t235 a0_0 l0_1)) else ((g2 x7_3 (wrap64 (1 + t241))).bind fun t243 => (impl_game_length.l0 k5_ a1 g2 t243 (t235.length : Int) (wrap64 (x16_3 + 1)) t235 a0_0 l0_1))) = some r := H
                  have A20_ := Aside0.mk A20_0
                  clear A20_0
                  by_cases c21_ : x16_3 = 0
                  · rw [if_pos c21_] at H
                    have c21_b0 : (x16_3 == 0) = true := beq_iff_eq.mpr c21_
                    have c21_b1 : (x16_3 != 0) = false := bne_eq_false_iff_eq.mpr c21_
                    clear c21_
                    replace H := Option.bind_eq_some_iff.mp H
                    obtain ⟨t242, A22_0, H⟩ := H
                    replace H : (impl_game_length.l0 k5_ a1 g2 t242 (t235.length : Int) (wrap64 (x16_3 + 1)) t235 a0_0 l0_1) = some r := H
                    have A22_ := Aside0.mk A22_0
                    clear A22_0
                    have H' := Aside0.mk H
                    clear H
                    have p236 : 0 ≤ (x16_3 : Int) := of_decide_eq_true (by first | (with_reducible assumption) | assumption)
                    have q236 : (x16_3 : Int) < (t235.length : Int) := of_decide_eq_true (by first | (with_reducible assumption) | assumption)
                    obtain ⟨ad236, e236, hx236⟩ := Kd.at_int (Kd.R_reads' (HM.out.R (h1 := fun _ => rfl) 0 rfl)).2.2 x16_3 p236 q236
                    cases e236
                    replace p236 := eq_true p236
                    replace q236 := eq_true q236
                    go_wp2_with (first | ((with_reducible refine gate_callee (f := 34) rfl ?_); (with_reducible refine gate_dst (N := 23) rfl ?_); refine goesL_ (some 23) rfl rfl Try.func34 (by kernel_rfl) rfl #[.int .i64 (rd t235 x16_3)] rfl (by (try simp only [List.map_toArray, List.map_cons, List.map_nil]); first | done | rfl | (simp only [List.length_drop, List.length_take]; rfl)) ?_; (with_reducible refine (impl_nailBit.calls (rd t235 x16_3) t237 _  A9_.out).mono ?_); rintro e_ w23_ ⟨rfl, hd_⟩; refine ⟨_, rfl, ?_⟩; have hb := hd_.below; clear hd_; have n_ := Aside0.mk (HM.out.step hb); clear HM; have HM := n_; clear n_; clear hb; have p238 : 0 ≤ (Go.bits .or .i64 a1 t237 : Int) := of_decide_eq_true (by first | (with_reducible assumption) | assumption); have q238 : (Go.bits .or .i64 a1 t237 : Int) < 64 := of_decide_eq_true (by first | (with_reducible assumption) | assumption); have hx238 := fcellB (blk_below HQ1.out HM.out.below) 1 rfl (Go.bits .or .i64 a1 t237) p238 (by have := HL0_1.out; omega); replace p238 := eq_true p238; replace q238 := eq_true q238) | ((with_reducible refine gate_callee (f := 42) rfl ?_); (with_reducible refine gate_dst (N := 36) rfl ?_); refine goesL_ (some 36) rfl rfl Try.func42 (by kernel_rfl) rfl #[.pointer (some ⟨gb1, 0, none⟩), .int .i64 (Go.bits .or .i64 a1 t237), F2] rfl (by (try simp only [List.map_toArray, List.map_cons, List.map_nil]); first | done | rfl | (simp only [List.length_drop, List.length_take]; rfl)) ?_; (with_reducible refine ((ih k5_ (by have hHK4__ := HK4_.out; omega)) _ a0_0 l0_1 (Go.bits .or .i64 a1 t237) _ g2 t241 _ ?sd0 ?sd1 ?sd2 A20_.out).mono ?_); (case sd0 => exact HL0_1.out); (case sd1 => exact (blk_below HQ1.out HM.out.below)); (case sd2 => exact (FnI2.below HF2.out HM.out.below)); rintro e_ w24_ ⟨rfl, hb⟩; refine ⟨_, rfl, ?_⟩; have n_ := Aside0.mk (HM.out.step hb); clear HM; have HM := n_; clear n_; clear hb) | ((with_reducible refine gate_dst (N := 44) rfl ?_); refine goesI2 (some 44) rfl rfl (V := F2) (g := g2) (x1 := wrap64 (1 + t241)) (x2 := wrap64 (1 + t241)) (r := t242) rfl rfl rfl rfl (FnI2.below HF2.out HM.out.below) A22_.out ?_; intro w25_ hb; have n_ := Aside0.mk (HM.out.step hb); clear HM; have HM := n_; clear n_; clear hb))
                    go_roundg k5_
                    case measure => have hHK4__ := HK4_.out; omega
                    case rel => exact ⟨(t242), (wrap64 (x16_3 + 1)), (by first | rfl | (simp; done) | (simp [*]; done)), (by first | rfl | (simp; done) | (simp [*]; done)), H', ⟨by have hHK4__ := HK4_.out; omega⟩, HM⟩
                  · rw [if_neg c21_] at H
                    have c21_b0 : (x16_3 == 0) = false := beq_eq_false_iff_ne.mpr c21_
                    have c21_b1 : (x16_3 != 0) = true := bne_iff_ne.mpr c21_
                    clear c21_
                    replace H := Option.bind_eq_some_iff.mp H
                    obtain ⟨t243, A26_0, H⟩ := H
                    replace H : (impl_game_length.l0 k5_ a1 g2 t243 (t235.length : Int) (wrap64 (x16_3 + 1)) t235 a0_0 l0_1) = some r := H
                    have A26_ := Aside0.mk A26_0
                    clear A26_0
                    have H' := Aside0.mk H
                    clear H
                    have p236 : 0 ≤ (x16_3 : Int) := of_decide_eq_true (by first | (with_reducible assumption) | assumption)
                    have q236 : (x16_3 : Int) < (t235.length : Int) := of_decide_eq_true (by first | (with_reducible assumption) | assumption)
                    obtain ⟨ad236, e236, hx236⟩ := Kd.at_int (Kd.R_reads' (HM.out.R (h1 := fun _ => rfl) 0 rfl)).2.2 x16_3 p236 q236
                    cases e236
                    replace p236 := eq_true p236
                    replace q236 := eq_true q236
                    go_wp2_with (first | ((with_reducible refine gate_callee (f := 34) rfl ?_); (with_reducible refine gate_dst (N := 23) rfl ?_); refine goesL_ (some 23) rfl rfl Try.func34 (by kernel_rfl) rfl #[.int .i64 (rd t235 x16_3)] rfl (by (try simp only [List.map_toArray, List.map_cons, List.map_nil]); first | done | rfl | (simp only [List.length_drop, List.length_take]; rfl)) ?_; (with_reducible refine (impl_nailBit.calls (rd t235 x16_3) t237 _  A9_.out).mono ?_); rintro e_ w27_ ⟨rfl, hd_⟩; refine ⟨_, rfl, ?_⟩; have hb := hd_.below; clear hd_; have n_ := Aside0.mk (HM.out.step hb); clear HM; have HM := n_; clear n_; clear hb; have p238 : 0 ≤ (Go.bits .or .i64 a1 t237 : Int) := of_decide_eq_true (by first | (with_reducible assumption) | assumption); have q238 : (Go.bits .or .i64 a1 t237 : Int) < 64 := of_decide_eq_true (by first | (with_reducible assumption) | assumption); have hx238 := fcellB (blk_below HQ1.out HM.out.below) 1 rfl (Go.bits .or .i64 a1 t237) p238 (by have := HL0_1.out; omega); replace p238 := eq_true p238; replace q238 := eq_true q238) | ((with_reducible refine gate_callee (f := 42) rfl ?_); (with_reducible refine gate_dst (N := 36) rfl ?_); refine goesL_ (some 36) rfl rfl Try.func42 (by kernel_rfl) rfl #[.pointer (some ⟨gb1, 0, none⟩), .int .i64 (Go.bits .or .i64 a1 t237), F2] rfl (by (try simp only [List.map_toArray, List.map_cons, List.map_nil]); first | done | rfl | (simp only [List.length_drop, List.length_take]; rfl)) ?_; (with_reducible refine ((ih k5_ (by have hHK4__ := HK4_.out; omega)) _ a0_0 l0_1 (Go.bits .or .i64 a1 t237) _ g2 t241 _ ?sd0 ?sd1 ?sd2 A20_.out).mono ?_); (case sd0 => exact HL0_1.out); (case sd1 => exact (blk_below HQ1.out HM.out.below)); (case sd2 => exact (FnI2.below HF2.out HM.out.below)); rintro e_ w28_ ⟨rfl, hb⟩; refine ⟨_, rfl, ?_⟩; have n_ := Aside0.mk (HM.out.step hb); clear HM; have HM := n_; clear n_; clear hb) | ((with_reducible refine gate_dst (N := 44) rfl ?_); refine goesI2 (some 44) rfl rfl (V := F2) (g := g2) (x1 := x7_3) (x2 := wrap64 (1 + t241)) (r := t243) rfl rfl rfl rfl (FnI2.below HF2.out HM.out.below) A26_.out ?_; intro w29_ hb; have n_ := Aside0.mk (HM.out.step hb); clear HM; have HM := n_; clear n_; clear hb))
                    go_roundg k5_
                    case measure => have hHK4__ := HK4_.out; omega
                    case rel => exact ⟨(t243), (wrap64 (x16_3 + 1)), (by first | rfl | (simp; done) | (simp [*]; done)), (by first | rfl | (simp; done) | (simp [*]; done)), H', ⟨by have hHK4__ := HK4_.out; omega⟩, HM⟩
              · rw [if_neg c11_] at H
                have c11_b0 : decide ((Go.bits .or .i64 a1 t237) < 64) = false := decide_eq_false c11_
                clear c11_
                exact absurd H (by simp)
            · rw [if_neg c10_] at H
              have c10_b0 : decide (0 ≤ (Go.bits .or .i64 a1 t237)) = false := decide_eq_false c10_
              clear c10_
              exact absurd H (by simp)
          · rw [if_neg c8_] at H
            have c8_b0 : decide (x16_3 < (t235.length : Int)) = false := decide_eq_false c8_
            clear c8_
            exact absurd H (by simp)
        · rw [if_neg c7_] at H
          have c7_b0 : decide (0 ≤ x16_3) = false := decide_eq_false c7_
          clear c7_
          exact absurd H (by simp)
      · rw [if_neg c6_] at H
        have c6_b0 : decide (x16_3 < (t235.length : Int)) = false := decide_eq_false c6_
        clear c6_
        obtain rfl := Option.some.inj H
        go_wp2
        go_ret
        exact ⟨by first | rfl | (simp; done) | (simp [*]; done), HM.out.below⟩

/-! ### impl_LongestGame_1: function 43 -/
def impl_LongestGame_1.f (a0 : Int) (a1 : Int) : Option (Int) := some (mx a0 a1)
set_option maxHeartbeats 8000000 in
set_option maxRecDepth 100000 in
theorem impl_LongestGame_1.calls (a0 : Int) (a1 : Int) (r : Int) (w : World)  (h : impl_LongestGame_1.f a0 a1 = some r) :
    Calls Try.prog 43 #[.int .i64 a0, .int .i64 a1] w fun e w' => e = .returned (.int .i64 r) ∧ Drawn0 w w' := by
  have HM := Aside0.mk (MS.start w)
  have HD := Aside0.mk (Drawn0.refl w)
  have H : (some (mx a0 a1)) = some r := h
  clear h
  obtain ⟨ji1_, hji1_⟩ : ∃ j_ : Int, (mx a0 a1) = j_ := ⟨_, rfl⟩
  replace H : (some ji1_) = some r := by first | (rw [hji1_] at H; exact H) | (simp only [hji1_] at H ⊢; exact H)
  have hji1__ : (if a0 < a1 then a1 else a0) = ji1_ := hji1_
  obtain rfl := Option.some.inj H
  go_enter Try.func43, Try.ntmps43
  go_wp2
  go_ret
  exact ⟨by first | rfl | (simp; done) | (simp only [← hji1_] <;> (first | rfl | simp)) | (simp [*]; done), HD.out⟩

/-! ### impl_LongestGame: function 23 -/
def impl_LongestGame.f (k : Nat) (l0 : List Int) (a1 : Int) (a2 : Int) : Option (Int × Bool) := (impl_gameAt.f k l0 a1 a2).bind fun bt244 => (if bt244.1 = true then (if bt244.2.2.2 = true then ((impl_game_length.f k bt244.2.1 bt244.2.2.1 a2 (fun x_ y_ => impl_LongestGame_1.f x_ y_)).bind fun t249 => (some (t249, true))) else (some (0, false))) else (if bt244.2.2.2 = true then (none) else (some (0, false))))
set_option maxHeartbeats 8000000 in
set_option maxRecDepth 100000 in
theorem impl_LongestGame.calls (k : Nat) (A0 : Option Addr) (c0 : Nat) (l0 : List Int) (a1 : Int) (a2 : Int) (r1 : Int) (r2 : Bool) (w : World) (hr0 : Kd.C (Kd.int .i64) w A0 l0.length l0) (hc0 : l0.length ≤ c0) (h : impl_LongestGame.f k l0 a1 a2 = some (r1, r2)) :
    Calls Try.prog 23 #[.slice A0 l0.length c0, .int .i64 a1, .int .i64 a2] w fun e w' => e = .returned (.tuple #[.int .i64 r1, .bool r2]) ∧ Below w.heap.size w w' := by
  have HR0 := Aside0.mk hr0
  have HC0 := Aside0.mk hc0
  clear hr0 hc0
  have HM := Aside0.mk (MS.start w)
  have H : ((impl_gameAt.f k l0 a1 a2).bind fun bt244 => (if bt244.1 = true then (if bt244.2.2.2 = true then ((impl_game_length.f k bt244.2.1 bt244.2.2.1 a2 (fun x_ y_ => impl_LongestGame_1.f x_ y_)).bind fun t249 => (some (t249, true))) else (some (0, false))) else (if bt244.2.2.2 = true then (none) else (some (0, false))))) = some (r1, r2) := h
  clear h
  replace H := Option.bind_eq_some_iff.mp H
  obtain ⟨⟨t244, t245, t246, t247⟩, A1_0, H⟩ := H
  replace H : (if t244 = true then (if t247 = true then ((impl_game_length.f k t245 t246 a2 (fun x_ y_ => impl_LongestGame_1.f x_ y_)).bind fun t249 => (some (t249, true))) else (some (0, false))) else (if t247 = true then (none) else (some (0, false)))) = some (r1, r2) := H
  have A1_ := Aside0.mk A1_0
  clear A1_0
  by_cases c2_ : t244 = true
  · subst c2_
    have H1 : (if t247 = true then ((impl_game_length.f k t245 t246 a2 (fun x_ y_ => impl_LongestGame_1.f x_ y_)).bind fun t249 => (some (t249, true))) else (some (0, false))) = some (r1, r2) := by rw [if_pos rfl] at H; exact H
    clear H
    have H := H1
    clear H1
    by_cases c3_ : t247 = true
    · subst c3_
      have H1 : ((impl_game_length.f k t245 t246 a2 (fun x_ y_ => impl_LongestGame_1.f x_ y_)).bind fun t249 => (some (t249, true))) = some (r1, r2) := by rw [if_pos rfl] at H; exact H
      clear H
      have H := H1
      clear H1
      replace H := Option.bind_eq_some_iff.mp H
      obtain ⟨t249, A4_0, H⟩ := H
      replace H : (some (t249, true)) = some (r1, r2) := H
      have A4_ := Aside0.mk A4_0
      clear A4_0
      simp only [Option.some.injEq, Prod.mk.injEq] at H
      obtain ⟨rfl, rfl⟩ := H
      go_enter Try.func23, Try.ntmps23
      go_wp2_with (first | ((with_reducible refine gate_callee (f := 33) rfl ?_); (with_reducible refine gate_dst (N := 14) rfl ?_); refine goesL_ (some 14) rfl rfl Try.func33 (by kernel_rfl) rfl #[.slice A0 l0.length c0, .int .i64 a1, .int .i64 a2] rfl (by (try simp only [List.map_toArray, List.map_cons, List.map_nil]); first | done | rfl | (simp only [List.length_drop, List.length_take]; rfl)) ?_; (with_reducible refine (impl_gameAt.calls k _ _ l0 a1 a2 true t245 t246 true _ ?sd0 ?sd1 A1_.out).mono ?_); (case sd0 => exact (Kd.C_below HR0.out HM.out.below)); (case sd1 => exact HC0.out); rintro e_ w5_ ⟨vv0_, rfl, ho0_, ho1_, hb⟩; refine ⟨_, rfl, ?_⟩; have HLt246 := Aside0.mk ho1_; obtain ⟨gb1, ev_, hbx_, hge_⟩ := PtrTo.yes ho0_; subst ev_; have n_ := Aside0.mk (HM.out.addPtr hb hbx_ hge_); clear HM; have HM := n_; clear n_; clear hbx_ hge_; clear hb ho0_ ho1_; have fv248 := Aside0.mk (show FnI2 Try.prog w5_ (.func (.func 43) #[] #[]) (fun x_ y_ => impl_LongestGame_1.f x_ y_) from FnI2.mk Try.func43 rfl rfl (fun W_ hW_ x_ y_ r_ hr_ => (show Calls Try.prog 43 #[.int .i64 x_, .int .i64 y_] W_ _ from drawn_calls (impl_LongestGame_1.calls x_ y_ r_ W_  hr_))))) | ((with_reducible refine gate_callee (f := 42) rfl ?_); (with_reducible refine gate_dst (N := 21) rfl ?_); refine goesL_ (some 21) rfl rfl Try.func42 (by kernel_rfl) rfl #[.pointer (some ⟨gb1, 0, none⟩), .int .i64 a2, .func (.func 43) #[] #[]] rfl (by (try simp only [List.map_toArray, List.map_cons, List.map_nil]); first | done | rfl | (simp only [List.length_drop, List.length_take]; rfl)) ?_; (with_reducible refine (impl_game_length.calls k _ t245 t246 a2 _ (fun x_ y_ => impl_LongestGame_1.f x_ y_) t249 _ ?sd0 ?sd1 ?sd2 A4_.out).mono ?_); (case sd0 => exact HLt246.out); (case sd1 => exact (HM.out.box 0 rfl)); (case sd2 => exact fv248.out); rintro e_ w6_ ⟨rfl, hb⟩; refine ⟨_, rfl, ?_⟩; have n_ := Aside0.mk (HM.out.step hb); clear HM; have HM := n_; clear n_; clear hb))
      go_ret2
      exact ⟨by first | rfl | (simp; done) | (simp [*]; done), HM.out.below⟩
    · replace c3_ := Bool.eq_false_iff.mpr c3_
      subst c3_
      have H1 : (some (0, false)) = some (r1, r2) := by rw [if_neg (show ¬ (false = true) by decide)] at H; exact H
      clear H
      have H := H1
      clear H1
      simp only [Option.some.injEq, Prod.mk.injEq] at H
      obtain ⟨rfl, rfl⟩ := H
      go_enter Try.func23, Try.ntmps23
      go_wp2_with (first | ((with_reducible refine gate_callee (f := 33) rfl ?_); (with_reducible refine gate_dst (N := 14) rfl ?_); refine goesL_ (some 14) rfl rfl Try.func33 (by kernel_rfl) rfl #[.slice A0 l0.length c0, .int .i64 a1, .int .i64 a2] rfl (by (try simp only [List.map_toArray, List.map_cons, List.map_nil]); first | done | rfl | (simp only [List.length_drop, List.length_take]; rfl)) ?_; (with_reducible refine (impl_gameAt.calls k _ _ l0 a1 a2 true t245 t246 false _ ?sd0 ?sd1 A1_.out).mono ?_); (case sd0 => exact (Kd.C_below HR0.out HM.out.below)); (case sd1 => exact HC0.out); rintro e_ w7_ ⟨vv0_, rfl, ho0_, ho1_, hb⟩; refine ⟨_, rfl, ?_⟩; have HLt246 := Aside0.mk ho1_; obtain ⟨gb1, ev_, hbx_, hge_⟩ := PtrTo.yes ho0_; subst ev_; have n_ := Aside0.mk (HM.out.addPtr hb hbx_ hge_); clear HM; have HM := n_; clear n_; clear hbx_ hge_; clear hb ho0_ ho1_))
      go_ret2
      exact ⟨by first | rfl | (simp; done) | (simp [*]; done), HM.out.below⟩
  · replace c2_ := Bool.eq_false_iff.mpr c2_
    subst c2_
    have H1 : (if t247 = true then (none) else (some (0, false))) = some (r1, r2) := by rw [if_neg (show ¬ (false = true) by decide)] at H; exact H
    clear H
    have H := H1
    clear H1
    by_cases c8_ : t247 = true
    · subst c8_
      have H1 : (none) = some (r1, r2) := by rw [if_pos rfl] at H; exact H
      clear H
      have H := H1
      clear H1
      exact absurd H (by simp)
    · replace c8_ := Bool.eq_false_iff.mpr c8_
      subst c8_
      have H1 : (some (0, false)) = some (r1, r2) := by rw [if_neg (show ¬ (false = true) by decide)] at H; exact H
      clear H
      have H := H1
      clear H1
      simp only [Option.some.injEq, Prod.mk.injEq] at H
      obtain ⟨rfl, rfl⟩ := H
      go_enter Try.func23, Try.ntmps23
      go_wp2_with (first | ((with_reducible refine gate_callee (f := 33) rfl ?_); (with_reducible refine gate_dst (N := 14) rfl ?_); refine goesL_ (some 14) rfl rfl Try.func33 (by kernel_rfl) rfl #[.slice A0 l0.length c0, .int .i64 a1, .int .i64 a2] rfl (by (try simp only [List.map_toArray, List.map_cons, List.map_nil]); first | done | rfl | (simp only [List.length_drop, List.length_take]; rfl)) ?_; (with_reducible refine (impl_gameAt.calls k _ _ l0 a1 a2 false t245 t246 false _ ?sd0 ?sd1 A1_.out).mono ?_); (case sd0 => exact (Kd.C_below HR0.out HM.out.below)); (case sd1 => exact HC0.out); rintro e_ w9_ ⟨vv0_, rfl, ho0_, ho1_, hb⟩; refine ⟨_, rfl, ?_⟩; have HLt246 := Aside0.mk ho1_; have ev_ := PtrTo.no ho0_; subst ev_; have n_ := Aside0.mk (HM.out.step hb); clear HM; have HM := n_; clear n_; clear hb ho0_ ho1_))
      go_ret2
      exact ⟨by first | rfl | (simp; done) | (simp [*]; done), HM.out.below⟩

/-! ### impl_ShortestGame_1: function 44 -/
def impl_ShortestGame_1.f (a0 : Int) (a1 : Int) : Option (Int) := some (mn a0 a1)
set_option maxHeartbeats 8000000 in
set_option maxRecDepth 100000 in
theorem impl_ShortestGame_1.calls (a0 : Int) (a1 : Int) (r : Int) (w : World)  (h : impl_ShortestGame_1.f a0 a1 = some r) :
    Calls Try.prog 44 #[.int .i64 a0, .int .i64 a1] w fun e w' => e = .returned (.int .i64 r) ∧ Drawn0 w w' := by
  have HM := Aside0.mk (MS.start w)
  have HD := Aside0.mk (Drawn0.refl w)
  have H : (some (mn a0 a1)) = some r := h
  clear h
  obtain ⟨ji1_, hji1_⟩ : ∃ j_ : Int, (mn a0 a1) = j_ := ⟨_, rfl⟩
  replace H : (some ji1_) = some r := by first | (rw [hji1_] at H; exact H) | (simp only [hji1_] at H ⊢; exact H)
  have hji1__ : (if a1 < a0 then a1 else a0) = ji1_ := hji1_
  obtain rfl := Option.some.inj H
  go_enter Try.func44, Try.ntmps44
  go_wp2
  go_ret
  exact ⟨by first | rfl | (simp; done) | (simp only [← hji1_] <;> (first | rfl | simp)) | (simp [*]; done), HD.out⟩

/-! ### impl_ShortestGame: function 25 -/
def impl_ShortestGame.f (k : Nat) (l0 : List Int) (a1 : Int) (a2 : Int) : Option (Int × Bool) := (impl_gameAt.f k l0 a1 a2).bind fun bt251 => (if bt251.1 = true then (if bt251.2.2.2 = true then ((impl_game_length.f k bt251.2.1 bt251.2.2.1 a2 (fun x_ y_ => impl_ShortestGame_1.f x_ y_)).bind fun t256 => (some (t256, true))) else (some (0, false))) else (if bt251.2.2.2 = true then (none) else (some (0, false))))
set_option maxHeartbeats 8000000 in
set_option maxRecDepth 100000 in
theorem impl_ShortestGame.calls (k : Nat) (A0 : Option Addr) (c0 : Nat) (l0 : List Int) (a1 : Int) (a2 : Int) (r1 : Int) (r2 : Bool) (w : World) (hr0 : Kd.C (Kd.int .i64) w A0 l0.length l0) (hc0 : l0.length ≤ c0) (h : impl_ShortestGame.f k l0 a1 a2 = some (r1, r2)) :
    Calls Try.prog 25 #[.slice A0 l0.length c0, .int .i64 a1, .int .i64 a2] w fun e w' => e = .returned (.tuple #[.int .i64 r1, .bool r2]) ∧ Below w.heap.size w w' := by
  have HR0 := Aside0.mk hr0
  have HC0 := Aside0.mk hc0
  clear hr0 hc0
  have HM := Aside0.mk (MS.start w)
  have H : ((impl_gameAt.f k l0 a1 a2).bind fun bt251 => (if bt251.1 = true then (if bt251.2.2.2 = true then ((impl_game_length.f k bt251.2.1 bt251.2.2.1 a2 (fun x_ y_ => impl_ShortestGame_1.f x_ y_)).bind fun t256 => (some (t256, true))) else (some (0, false))) else (if bt251.2.2.2 = true then (none) else (some (0, false))))) = some (r1, r2) := h
  clear h
  replace H := Option.bind_eq_some_iff.mp H
  obtain ⟨⟨t251, t252, t253, t254⟩, A1_0, H⟩ := H
  replace H : (if t251 = true then (if t254 = true then ((impl_game_length.f k t252 t253 a2 (fun x_ y_ => impl_ShortestGame_1.f x_ y_)).bind fun t256 => (some (t256, true))) else (some (0, false))) else (if t254 = true then (none) else (some (0, false)))) = some (r1, r2) := H
  have A1_ := Aside0.mk A1_0
  clear A1_0
  by_cases c2_ : t251 = true
  · subst c2_
    have H1 : (if t254 = true then ((impl_game_length.f k t252 t253 a2 (fun x_ y_ => impl_ShortestGame_1.f x_ y_)).bind fun t256 => (some (t256, true))) else (some (0, false))) = some (r1, r2) := by rw [if_pos rfl] at H; exact H
    clear H
    have H := H1
    clear H1
    by_cases c3_ : t254 = true
    · subst c3_
      have H1 : ((impl_game_length.f k t252 t253 a2 (fun x_ y_ => impl_ShortestGame_1.f x_ y_)).bind fun t256 => (some (t256, true))) = some (r1, r2) := by rw [if_pos rfl] at H; exact H
      clear H
      have H := H1
      clear H1
      replace H := Option.bind_eq_some_iff.mp H
      obtain ⟨t256, A4_0, H⟩ := H
      replace H : (some (t256, true)) = some (r1, r2) := H
      have A4_ := Aside0.mk A4_0
      clear A4_0
      simp only [Option.some.injEq, Prod.mk.injEq] at H
      obtain ⟨rfl, rfl⟩ := H
      go_enter Try.func25, Try.ntmps25
      go_wp2_with (first | ((with_reducible refine gate_callee (f := 33) rfl ?_); (with_reducible refine gate_dst (N := 14) rfl ?_); refine goesL_ (some 14) rfl rfl Try.func33 (by kernel_rfl) rfl #[.slice A0 l0.length c0, .int .i64 a1, .int .i64 a2] rfl (by (try simp only [List.map_toArray, List.map_cons, List.map_nil]); first | done | rfl | (simp only [List.length_drop, List.length_take]; rfl)) ?_; (with_reducible refine (impl_gameAt.calls k _ _ l0 a1 a2 true t252 t253 true _ ?sd0 ?sd1 A1_.out).mono ?_); (case sd0 => exact (Kd.C_below HR0.out HM.out.below)); (case sd1 => exact HC0.out); rintro e_ w5_ ⟨vv0_, rfl, ho0_, ho1_, hb⟩; refine ⟨_, rfl, ?_⟩; have HLt253 := Aside0.mk ho1_; obtain ⟨gb1, ev_, hbx_, hge_⟩ := PtrTo.yes ho0_; subst ev_; have n_ := Aside0.mk (HM.out.addPtr hb hbx_ hge_); clear HM; have HM := n_; clear n_; clear hbx_ hge_; clear hb ho0_ ho1_; have fv255 := Aside0.mk (show FnI2 Try.prog w5_ (.func (.func 44) #[] #[]) (fun x_ y_ => impl_ShortestGame_1.f x_ y_) from FnI2.mk Try.func44 rfl rfl (fun W_ hW_ x_ y_ r_ hr_ => (show Calls Try.prog 44 #[.int .i64 x_, .int .i64 y_] W_ _ from drawn_calls (impl_ShortestGame_1.calls x_ y_ r_ W_  hr_))))) | ((with_reducible refine gate_callee (f := 42) rfl ?_); (with_reducible refine gate_dst (N := 21) rfl ?_); refine goesL_ (some 21) rfl rfl Try.func42 (by kernel_rfl) rfl #[.pointer (some ⟨gb1, 0, none⟩), .int .i64 a2, .func (.func 44) #[] #[]] rfl (by (try simp only [List.map_toArray, List.map_cons, List.map_nil]); first | done | rfl | (simp only [List.length_drop, List.length_take]; rfl)) ?_; (with_reducible refine (impl_game_length.calls k _ t252 t253 a2 _ (fun x_ y_ => impl_ShortestGame_1.f x_ y_) t256 _ ?sd0 ?sd1 ?sd2 A4_.out).mono ?_); (case sd0 => exact HLt253.out); (case sd1 => exact (HM.out.box 0 rfl)); (case sd2 => exact fv255.out); rintro e_ w6_ ⟨rfl, hb⟩; refine ⟨_, rfl, ?_⟩; have n_ := Aside0.mk (HM.out.step hb); clear HM; have HM := n_; clear n_; clear hb))
      go_ret2
      exact ⟨by first | rfl | (simp; done) | (simp [*]; done), HM.out.below⟩
    · replace c3_ := Bool.eq_false_iff.mpr c3_
      subst c3_
      have H1 : (some (0, false)) = some (r1, r2) := by rw [if_neg (show ¬ (false = true) by decide)] at H; exact H
      clear H
      have H := H1
      clear H1
      simp only [Option.some.injEq, Prod.mk.injEq] at H
      obtain ⟨rfl, rfl⟩ := H
      go_enter Try.func25, Try.ntmps25
      go_wp2_with (first | ((with_reducible refine gate_callee (f := 33) rfl ?_); (with_reducible refine gate_dst (N := 14) rfl ?_); refine goesL_ (some 14) rfl rfl Try.func33 (by kernel_rfl) rfl #[.slice A0 l0.length c0, .int .i64 a1, .int .i64 a2] rfl (by (try simp only [List.map_toArray, List.map_cons, List.map_nil]); first | done | rfl | (simp only [List.length_drop, List.length_take]; rfl)) ?_; (with_reducible refine (impl_gameAt.calls k _ _ l0 a1 a2 true t252 t253 false _ ?sd0 ?sd1 A1_.out).mono ?_); (case sd0 => exact (Kd.C_below HR0.out HM.out.below)); (case sd1 => exact HC0.out); rintro e_ w7_ ⟨vv0_, rfl, ho0_, ho1_, hb⟩; refine ⟨_, rfl, ?_⟩; have HLt253 := Aside0.mk ho1_; obtain ⟨gb1, ev_, hbx_, hge_⟩ := PtrTo.yes ho0_; subst ev_; have n_ := Aside0.mk (HM.out.addPtr hb hbx_ hge_); clear HM; have HM := n_; clear n_; clear hbx_ hge_; clear hb ho0_ ho1_))
      go_ret2
      exact ⟨by first | rfl | (simp; done) | (simp [*]; done), HM.out.below⟩
  · replace c2_ := Bool.eq_false_iff.mpr c2_
    subst c2_
    have H1 : (if t254 = true then (none) else (some (0, false))) = some (r1, r2) := by rw [if_neg (show ¬ (false = true) by decide)] at H; exact H
    clear H
    have H := H1
    clear H1
    by_cases c8_ : t254 = true
    · subst c8_
      have H1 : (none) = some (r1, r2) := by rw [if_pos rfl] at H; exact H
      clear H
      have H := H1
      clear H1
      exact absurd H (by simp)
    · replace c8_ := Bool.eq_false_iff.mpr c8_
      subst c8_
      have H1 : (some (0, false)) = some (r1, r2) := by rw [if_neg (show ¬ (false = true) by decide)] at H; exact H
      clear H
      have H := H1
      clear H1
      simp only [Option.some.injEq, Prod.mk.injEq] at H
      obtain ⟨rfl, rfl⟩ := H
      go_enter Try.func25, Try.ntmps25
      go_wp2_with (first | ((with_reducible refine gate_callee (f := 33) rfl ?_); (with_reducible refine gate_dst (N := 14) rfl ?_); refine goesL_ (some 14) rfl rfl Try.func33 (by kernel_rfl) rfl #[.slice A0 l0.length c0, .int .i64 a1, .int .i64 a2] rfl (by (try simp only [List.map_toArray, List.map_cons, List.map_nil]); first | done | rfl | (simp only [List.length_drop, List.length_take]; rfl)) ?_; (with_reducible refine (impl_gameAt.calls k _ _ l0 a1 a2 false t252 t253 false _ ?sd0 ?sd1 A1_.out).mono ?_); (case sd0 => exact (Kd.C_below HR0.out HM.out.below)); (case sd1 => exact HC0.out); rintro e_ w9_ ⟨vv0_, rfl, ho0_, ho1_, hb⟩; refine ⟨_, rfl, ?_⟩; have HLt253 := Aside0.mk ho1_; have ev_ := PtrTo.no ho0_; subst ev_; have n_ := Aside0.mk (HM.out.step hb); clear HM; have HM := n_; clear n_; clear hb ho0_ ho1_))
      go_ret2
      exact ⟨by first | rfl | (simp; done) | (simp [*]; done), HM.out.below⟩

end Go.Proofs.Ytbnhnmcbaacdiaa.Q
