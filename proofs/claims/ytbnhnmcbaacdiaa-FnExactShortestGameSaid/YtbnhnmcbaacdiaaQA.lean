-- Written by a program of this session's own (wip/wgen.py): what functions of the program compute, and that they do.
import Derived.Below
import Derived.Deep.Draws
import Derived.Deep.AppendLies
import Derived.Maps.AppendAt
import Derived.OwnWalk
import Derived.Laws.BytesArg
import Derived.Laws.MakeOwn
import Derived.Laws.OwnMore
import Derived.Deep.OwnRows
import Derived.Tactics
import Derived.Lib.ConvBytes
import Derived.Laws.Slices
import Derived.WalkKit
import Derived.KernelRfl
import Derived.RowKit3
import Derived.Deep.LoopGhost
import Derived.Deep.QuietTactic
import Derived.BigQuiet
import Derived.WideLaws
import Derived.Deep.DeepCutAuto
import Derived.Deep.CutBlock
import Derived.Deep.RegionHeld3
import Derived.Laws.Rows
import Derived.Lib.AppendStr
import Derived.ArgAppend
import Derived.Laws.IdiomCopy
import Derived.OrdersHeld
import Derived.Laws.BitsLemmas
import Derived.RowKit
import Derived.Test.YtbnhnmcbaacdiaaHM
import Derived.Test.YtbnhnmcbaacdiaaRG
import Derived.Test.YtbnhnmcbaacdiaaProg
import Derived.Test.YtbnhnmcbaacdiaaK1
import Derived.Test.YtbnhnmcbaacdiaaK2
import Derived.Test.YtbnhnmcbaacdiaaQI
import Derived.Test.YtbnhnmcbaacdiaaCN
import Derived.Test.YtbnhnmcbaacdiaaDF
namespace Go.Proofs.Ytbnhnmcbaacdiaa.Q
open Go.RowKit Go.Proofs.YtbnhnmcbaacdiaaW.PrintWords Go.Proofs.YtbnhnmcbaacdiaaW.PrintLast Go.Proofs.YtbnhnmcbaacdiaaW.PrintMore Go.Proofs.YtbnhnmcbaacdiaaM Go.Proofs.Ytbnhnmcbaacdiaa.K
attribute [local go_sem] max2_int min2_int max_two min_two max_three min_three max_four min_four
set_option linter.unusedVariables false
set_option linter.unusedSimpArgs false

/-! ### impl_isLetter: function 68 -/
def impl_isLetter.f (a0 : Int) : Option (Bool) := if a0 = 0 then (some false) else (if a0 ≥ (-6) then (some (decide (a0 ≤ 6))) else (some false))
set_option maxHeartbeats 8000000 in
set_option maxRecDepth 100000 in
theorem impl_isLetter.calls (a0 : Int) (r : Bool) (w : World)  (h : impl_isLetter.f a0 = some r) :
    Calls Try.prog 68 #[.int .i64 a0] w fun e w' => e = .returned (.bool r) ∧ Drawn0 w w' := by
  have HM := Aside0.mk (MS.start w)
  have HD := Aside0.mk (Drawn0.refl w)
  have H : (if a0 = 0 then (some false) else (if a0 ≥ (-6) then (some (decide (a0 ≤ 6))) else (some false))) = some r := h
  clear h
  by_cases c1_ : a0 = 0
  · rw [if_pos c1_] at H
    have c1_b0 : (a0 == 0) = true := beq_iff_eq.mpr c1_
    have c1_b1 : (a0 != 0) = false := bne_eq_false_iff_eq.mpr c1_
    clear c1_
    obtain rfl := Option.some.inj H
    go_enter Try.func68, Try.ntmps68
    go_wp2
    go_ret
    exact ⟨by first | rfl | (simp; done) | (simp [*]; done), HD.out⟩
  · rw [if_neg c1_] at H
    have c1_b0 : (a0 == 0) = false := beq_eq_false_iff_ne.mpr c1_
    have c1_b1 : (a0 != 0) = true := bne_iff_ne.mpr c1_
    clear c1_
    by_cases c2_ : a0 ≥ (-6)
    · rw [if_pos c2_] at H
      have c2_b0 : decide ((-6) ≤ a0) = true := decide_eq_true c2_
      clear c2_
      obtain rfl := Option.some.inj H
      go_enter Try.func68, Try.ntmps68
      go_wp2
      go_ret
      exact ⟨by first | rfl | (simp; done) | (simp [*]; done), HD.out⟩
    · rw [if_neg c2_] at H
      have c2_b0 : decide ((-6) ≤ a0) = false := decide_eq_false c2_
      clear c2_
      obtain rfl := Option.some.inj H
      go_enter Try.func68, Try.ntmps68
      go_wp2
      go_ret
      exact ⟨by first | rfl | (simp; done) | (simp [*]; done), HD.out⟩

/-! ### impl_isWord_1: function 67 -/
def impl_isWord_1.f (a0 : Int) : Option (Bool) := (impl_isLetter.f a0).bind fun t101 => (some (!t101))
set_option maxHeartbeats 8000000 in
set_option maxRecDepth 100000 in
theorem impl_isWord_1.calls (a0 : Int) (r : Bool) (w : World)  (h : impl_isWord_1.f a0 = some r) :
    Calls Try.prog 67 #[.int .i64 a0] w fun e w' => e = .returned (.bool r) ∧ Drawn0 w w' := by
  have HM := Aside0.mk (MS.start w)
  have HD := Aside0.mk (Drawn0.refl w)
  have H : ((impl_isLetter.f a0).bind fun t101 => (some (!t101))) = some r := h
  clear h
  replace H := Option.bind_eq_some_iff.mp H
  obtain ⟨t101, A1_0, H⟩ := H
  replace H : (some (!t101)) = some r := H
  have A1_ := Aside0.mk A1_0
  clear A1_0
  obtain rfl := Option.some.inj H
  go_enter Try.func67, Try.ntmps67
  go_wp2_with (first | ((with_reducible refine gate_callee (f := 68) rfl ?_); (with_reducible refine gate_dst (N := 4) rfl ?_); refine goesL_ (some 4) rfl rfl Try.func68 (by kernel_rfl) rfl #[.int .i64 a0] rfl (by (try simp only [List.map_toArray, List.map_cons, List.map_nil]); first | done | rfl | (simp only [List.length_drop, List.length_take]; rfl)) ?_; (with_reducible refine (impl_isLetter.calls a0 t101 _  A1_.out).mono ?_); rintro e_ w2_ ⟨rfl, hd_⟩; refine ⟨_, rfl, ?_⟩; have hb := hd_.below; have nd_ := Aside0.mk (HD.out.trans hd_); clear HD; have HD := nd_; clear nd_; clear hd_; have n_ := Aside0.mk (HM.out.step hb); clear HM; have HM := n_; clear n_; clear hb))
  go_ret
  exact ⟨by first | rfl | (simp; done) | (simp [*]; done), HD.out⟩

/-! ### impl_isWord: function 59 -/
def impl_isWord.f (k : Nat) (l0 : List Int) : Option (Bool) := if (l0.length : Int) ≤ 64 then ((slices_ContainsFunc_int_int.f k l0 (fun x_ => impl_isWord_1.f x_)).bind fun t103 => (some (!t103))) else (some false)
set_option maxHeartbeats 8000000 in
set_option maxRecDepth 100000 in
theorem impl_isWord.calls (k : Nat) (A0 : Option Addr) (c0 : Nat) (l0 : List Int) (r : Bool) (w : World) (hr0 : Kd.C (Kd.int .i64) w A0 l0.length l0) (hc0 : l0.length ≤ c0) (h : impl_isWord.f k l0 = some r) :
    Calls Try.prog 59 #[.slice A0 l0.length c0] w fun e w' => e = .returned (.bool r) ∧ Below w.heap.size w w' := by
  have HR0 := Aside0.mk hr0
  have HC0 := Aside0.mk hc0
  clear hr0 hc0
  have HM := Aside0.mk (MS.start w)
  have H : (if (l0.length : Int) ≤ 64 then ((slices_ContainsFunc_int_int.f k l0 (fun x_ => impl_isWord_1.f x_)).bind fun t103 => (some (!t103))) else (some false)) = some r := h
  clear h
  by_cases c1_ : (l0.length : Int) ≤ 64
  · rw [if_pos c1_] at H
    have c1_b0 : decide ((l0.length : Int) ≤ 64) = true := decide_eq_true c1_
    have c1_b1 : decide (l0.length ≤ 64) = true := decide_eq_true (by omega)
    clear c1_
    replace H := Option.bind_eq_some_iff.mp H
    obtain ⟨t103, A2_0, H⟩ := H
    replace H : (some (!t103)) = some r := H
    have A2_ := Aside0.mk A2_0
    clear A2_0
    obtain rfl := Option.some.inj H
    have fv102 := Aside0.mk (show FnB Try.prog w (.func (.func 67) #[] #[]) (fun x_ => impl_isWord_1.f x_) from FnB.mk Try.func67 rfl rfl (fun W_ hW_ x_ r_ hr_ => (show Calls Try.prog 67 #[.int .i64 x_] W_ _ from drawn_calls (impl_isWord_1.calls x_ r_ W_  hr_))))
    go_enter Try.func59, Try.ntmps59
    go_wp2_with (first | (go_at_call 66; (refine calls_of_args (args' := #[.slice A0 l0.length c0, .func (.func 67) #[] #[]]) (by first | done | rfl) ?_); (with_reducible refine (slices_ContainsFunc_int_int.calls k _ _ l0 _ (fun x_ => impl_isWord_1.f x_) t103 _ ?sd0 ?sd1 ?sd2 A2_.out).mono ?_); (case sd0 => exact (Kd.C_below HR0.out HM.out.below)); (case sd1 => exact HC0.out); (case sd2 => exact fv102.out); rintro e_ w3_ ⟨rfl, hb⟩; have n_ := Aside0.mk (HM.out.step hb); clear HM; have HM := n_; clear n_; clear hb))
    go_ret
    exact ⟨by first | rfl | (simp; done) | (simp [*]; done), HM.out.below⟩
  · rw [if_neg c1_] at H
    have c1_b0 : decide ((l0.length : Int) ≤ 64) = false := decide_eq_false c1_
    have c1_b1 : decide (l0.length ≤ 64) = false := decide_eq_false (by omega)
    clear c1_
    obtain rfl := Option.some.inj H
    go_enter Try.func59, Try.ntmps59
    go_wp2
    go_ret
    exact ⟨by first | rfl | (simp; done) | (simp [*]; done), HM.out.below⟩

/-! ### impl_isNail: function 60 -/
def impl_isNail.f (a0 : Int) : Option (Bool) := if a0 ≥ 1 then (some (decide (a0 ≤ 6))) else (some false)
set_option maxHeartbeats 8000000 in
set_option maxRecDepth 100000 in
theorem impl_isNail.calls (a0 : Int) (r : Bool) (w : World)  (h : impl_isNail.f a0 = some r) :
    Calls Try.prog 60 #[.int .i64 a0] w fun e w' => e = .returned (.bool r) ∧ Drawn0 w w' := by
  have HM := Aside0.mk (MS.start w)
  have HD := Aside0.mk (Drawn0.refl w)
  have H : (if a0 ≥ 1 then (some (decide (a0 ≤ 6))) else (some false)) = some r := h
  clear h
  by_cases c1_ : a0 ≥ 1
  · rw [if_pos c1_] at H
    have c1_b0 : decide (1 ≤ a0) = true := decide_eq_true c1_
    clear c1_
    obtain rfl := Option.some.inj H
    go_enter Try.func60, Try.ntmps60
    go_wp2
    go_ret
    exact ⟨by first | rfl | (simp; done) | (simp [*]; done), HD.out⟩
  · rw [if_neg c1_] at H
    have c1_b0 : decide (1 ≤ a0) = false := decide_eq_false c1_
    clear c1_
    obtain rfl := Option.some.inj H
    go_enter Try.func60, Try.ntmps60
    go_wp2
    go_ret
    exact ⟨by first | rfl | (simp; done) | (simp [*]; done), HD.out⟩

/-! ### impl_nail: function 50 -/
def impl_nail.f (a0 : Int) : Option (Int) := some (mx a0 (wrap64 (-a0)))
set_option maxHeartbeats 8000000 in
set_option maxRecDepth 100000 in
theorem impl_nail.calls (a0 : Int) (r : Int) (w : World)  (h : impl_nail.f a0 = some r) :
    Calls Try.prog 50 #[.int .i64 a0] w fun e w' => e = .returned (.int .i64 r) ∧ Drawn0 w w' := by
  have HM := Aside0.mk (MS.start w)
  have HD := Aside0.mk (Drawn0.refl w)
  have H : (some (mx a0 (wrap64 (-a0)))) = some r := h
  clear h
  obtain ⟨ji1_, hji1_⟩ : ∃ j_ : Int, (mx a0 (wrap64 (-a0))) = j_ := ⟨_, rfl⟩
  replace H : (some ji1_) = some r := by first | (rw [hji1_] at H; exact H) | (simp only [hji1_] at H ⊢; exact H)
  have hji1__ : (if a0 < (wrap64 (-a0)) then (wrap64 (-a0)) else a0) = ji1_ := hji1_
  obtain rfl := Option.some.inj H
  go_enter Try.func50, Try.ntmps50
  go_wp2
  go_ret
  exact ⟨by first | rfl | (simp; done) | (simp only [← hji1_] <;> (first | rfl | simp)) | (simp [*]; done), HD.out⟩

/-! ### impl_nailBit: function 34 -/
def impl_nailBit.f (a0 : Int) : Option (Int) := (impl_nail.f a0).bind fun t104 => (if 0 ≤ (wrap64 (t104 - 1)) then (some (shl .i64 1 (wrap64 (t104 - 1)))) else (none))
set_option maxHeartbeats 8000000 in
set_option maxRecDepth 100000 in
theorem impl_nailBit.calls (a0 : Int) (r : Int) (w : World)  (h : impl_nailBit.f a0 = some r) :
    Calls Try.prog 34 #[.int .i64 a0] w fun e w' => e = .returned (.int .i64 r) ∧ Drawn0 w w' := by
  have HM := Aside0.mk (MS.start w)
  have HD := Aside0.mk (Drawn0.refl w)
  have H : ((impl_nail.f a0).bind fun t104 => (if 0 ≤ (wrap64 (t104 - 1)) then (some (shl .i64 1 (wrap64 (t104 - 1)))) else (none))) = some r := h
  clear h
  replace H := Option.bind_eq_some_iff.mp H
  obtain ⟨t104, A1_0, H⟩ := H
  replace H : (if 0 ≤ (wrap64 (t104 - 1)) then (some (shl .i64 1 (wrap64 (t104 - 1)))) else (none)) = some r := H
  have A1_ := Aside0.mk A1_0
  clear A1_0
  obtain ⟨ji2_, hji2_⟩ : ∃ j_ : Int, (wrap64 (t104 - 1)) = j_ := ⟨_, rfl⟩
  replace H : (if 0 ≤ ji2_ then (some (shl .i64 1 ji2_)) else (none)) = some r := by first | (rw [hji2_] at H; exact H) | (simp only [hji2_] at H ⊢; exact H)
  have hji2_w : (IntKind.i64.wrap (t104 - 1)) = ji2_ := (i64_w _).trans hji2_
  (try rw [hji2_] at A1_)
  by_cases c3_ : 0 ≤ ji2_
  · rw [if_pos c3_] at H
    have c3_x := eq_true c3_
    have c3_b0 : decide (0 ≤ ji2_) = true := decide_eq_true c3_
    clear c3_
    obtain ⟨ji4_, hji4_⟩ : ∃ j_ : Int, (shl .i64 1 ji2_) = j_ := ⟨_, rfl⟩
    replace H : (some ji4_) = some r := by first | (rw [hji4_] at H; exact H) | (simp only [hji4_] at H ⊢; exact H)
    have hji4__ : (IntKind.i64.wrap (1 * 2 ^ min (ji2_).toNat 64)) = ji4_ := hji4_
    have hji4_z : (ji2_) ≤ 64 → (IntKind.i64.wrap (1 * 2 ^ (ji2_).toNat)) = ji4_ := shl_small hji4_
    have hji4_u : (IntKind.i64.wrap (2 ^ min (ji2_).toNat 64)) = ji4_ := by have h_ := hji4__; rw [Int.one_mul] at h_; exact h_
    have hji4_v : (ji2_) ≤ 64 → (IntKind.i64.wrap (2 ^ (ji2_).toNat)) = ji4_ := fun hle_ => by have h_ := hji4_z hle_; rw [Int.one_mul] at h_; exact h_
    have hji4_y : (wrap64 (1 * 2 ^ min (ji2_).toNat 64)) = ji4_ := (i64_w _).symm.trans hji4__
    have hji4_x : (ji2_) ≤ 64 → (wrap64 (1 * 2 ^ (ji2_).toNat)) = ji4_ := fun h_ => (i64_w _).symm.trans (hji4_z h_)
    obtain rfl := Option.some.inj H
    go_enter Try.func34, Try.ntmps34
    go_wp2_with (first | ((with_reducible refine gate_callee (f := 50) rfl ?_); (with_reducible refine gate_dst (N := 4) rfl ?_); refine goesL_ (some 4) rfl rfl Try.func50 (by kernel_rfl) rfl #[.int .i64 a0] rfl (by (try simp only [List.map_toArray, List.map_cons, List.map_nil]); first | done | rfl | (simp only [List.length_drop, List.length_take]; rfl)) ?_; (with_reducible refine (impl_nail.calls a0 t104 _  A1_.out).mono ?_); rintro e_ w5_ ⟨rfl, hd_⟩; refine ⟨_, rfl, ?_⟩; have hb := hd_.below; have nd_ := Aside0.mk (HD.out.trans hd_); clear HD; have HD := nd_; clear nd_; clear hd_; have n_ := Aside0.mk (HM.out.step hb); clear HM; have HM := n_; clear n_; clear hb))
    go_ret
    exact ⟨by first | rfl | (simp; done) | (simp only [← hji2_, ← hji4_] <;> (first | rfl | simp)) | (simp [*]; done), HD.out⟩
  · rw [if_neg c3_] at H
    have c3_b0 : decide (0 ≤ ji2_) = false := decide_eq_false c3_
    clear c3_
    exact absurd H (by simp)

/-! ### impl_taken_1: function 74 -/
def impl_taken_1.f (a0 : Int) (a1 : Int) : Option (Bool) := (impl_nailBit.f a0).bind fun t105 => (some ((Go.bits .and .i64 a1 t105) != 0))
set_option maxHeartbeats 8000000 in
set_option maxRecDepth 100000 in
theorem impl_taken_1.calls (a0 : Int) (gb1 : Nat) (a1 : Int) (r : Bool) (w : World) (hq1 : w.heap[gb1]? = some (.cells #[.int .i64 a1] 3 (0, 0))) (h : impl_taken_1.f a0 a1 = some r) :
    Calls Try.prog 74 #[.int .i64 a0, .pointer (some ⟨gb1, 0, none⟩)] w fun e w' => e = .returned (.bool r) ∧ Drawn0 w w' := by
  have HQ1 := Aside0.mk hq1
  clear hq1
  have HM := Aside0.mk (MS.start w)
  have HD := Aside0.mk (Drawn0.refl w)
  have H : ((impl_nailBit.f a0).bind fun t105 => (some ((Go.bits .and .i64 a1 t105) != 0))) = some r := h
  clear h
  replace H := Option.bind_eq_some_iff.mp H
  obtain ⟨t105, A1_0, H⟩ := H
  replace H : (some ((Go.bits .and .i64 a1 t105) != 0)) = some r := H
  have A1_ := Aside0.mk A1_0
  clear A1_0
  obtain rfl := Option.some.inj H
  go_enter Try.func74, Try.ntmps74
  go_wp2
  have hcz2_0 : w.cell? ⟨gb1, 0, none⟩ = some (.int .i64 a1) := (blk_cell (blk_below HQ1.out HM.out.below) 0).trans rfl
  have hfz2_0 := blk_frozen (blk_below HQ1.out HM.out.below) 0
  go_quiet ((go_at_call 34; refine calls_quiet (v := .int .i64 t105) ?_; exact (impl_nailBit.calls a0 t105 _  A1_.out)))
  generalize hw : World.drewN _ _ = w4_
  have n_ := Aside0.mk (HM.out.step (show Below _ _ w4_ from hw ▸ pw_below_drewN (Below.refl _ _) _))
  have nd_ := Aside0.mk (HD.out.trans (show Drawn0 _ w4_ from ⟨⟨_, hw.symm⟩⟩))
  clear HD
  have HD := nd_
  clear nd_
  clear HM hw
  have HM := n_
  clear n_
  go_wp2
  go_ret
  exact ⟨by first | rfl | (simp; done) | (simp [*]; done), HD.out⟩

/-! ### impl_taken: function 71 -/
def impl_taken.f (k : Nat) (l0 : List Int) (a1 : Int) : Option (List Int) := (slices_Clone_int_int.f l0).bind fun t106 => ((slices_DeleteFunc_int_int.f t106 (fun x_ => impl_taken_1.f x_ a1)).bind fun t108 => ((impl_reduced.f k t108).bind fun t109 => (some t109)))
set_option maxHeartbeats 8000000 in
set_option maxRecDepth 100000 in
theorem impl_taken.calls (k : Nat) (A0 : Option Addr) (c0 : Nat) (l0 : List Int) (a1 : Int) (r : List Int) (w : World) (hr0 : Kd.C (Kd.int .i64) w A0 l0.length l0) (hc0 : l0.length ≤ c0) (h : impl_taken.f k l0 a1 = some r) :
    Calls Try.prog 71 #[.slice A0 l0.length c0, .int .i64 a1] w fun e w' => ∃ v0_ : Value, e = .returned (v0_) ∧ Kd.R (Kd.int .i64) 3 w' w.heap.size (fun _ => True) v0_ r ∧ Below w.heap.size w w' := by
  have HR0 := Aside0.mk hr0
  have HC0 := Aside0.mk hc0
  clear hr0 hc0
  have HM := Aside0.mk (MS.start w)
  have H : ((slices_Clone_int_int.f l0).bind fun t106 => ((slices_DeleteFunc_int_int.f t106 (fun x_ => impl_taken_1.f x_ a1)).bind fun t108 => ((impl_reduced.f k t108).bind fun t109 => (some t109)))) = some r := h
  clear h
  replace H := Option.bind_eq_some_iff.mp H
  obtain ⟨t106, A1_0, H⟩ := H
  replace H : ((slices_DeleteFunc_int_int.f t106 (fun x_ => impl_taken_1.f x_ a1)).bind fun t108 => ((impl_reduced.f k t108).bind fun t109 => (some t109))) = some r := H
  have A1_ := Aside0.mk A1_0
  clear A1_0
  replace H := Option.bind_eq_some_iff.mp H
  obtain ⟨t108, A2_0, H⟩ := H
  replace H : ((impl_reduced.f k t108).bind fun t109 => (some t109)) = some r := H
  have A2_ := Aside0.mk A2_0
  clear A2_0
  replace H := Option.bind_eq_some_iff.mp H
  obtain ⟨t109, A3_0, H⟩ := H
  replace H : (some t109) = some r := H
  have A3_ := Aside0.mk A3_0
  clear A3_0
  obtain rfl := Option.some.inj H
  go_enter Try.func71, Try.ntmps71
  go_wp2_with (first | ((with_reducible refine gate_dst (N := 3) rfl ?_); refine box_event ?hg (N := 3) ?hd (cs := #[.int .i64 a1]) (t := 3) ?hr ?_; (case hd => rfl); (case hg => rfl); (case hr => first | (go_simp; done) | (go_simp; rfl)); intro gb1 hg w4_ hbox hb; have n_ := Aside0.mk (HM.out.addBox hb hbox hg); clear HM; have HM := n_; clear n_; clear hb hbox hg) | ((with_reducible refine gate_callee (f := 73) rfl ?_); (with_reducible refine gate_dst (N := 6) rfl ?_); refine goesL_ (some 6) rfl rfl Try.func73 (by kernel_rfl) rfl #[.slice A0 l0.length c0] rfl (by (try simp only [List.map_toArray, List.map_cons, List.map_nil]); first | done | rfl | (simp only [List.length_drop, List.length_take]; rfl)) ?_; (with_reducible refine (slices_Clone_int_int.calls _ _ l0 t106 _ ?sd0 ?sd1 A1_.out).mono ?_); (case sd0 => exact (Kd.C_below HR0.out HM.out.below)); (case sd1 => exact HC0.out); rintro e_ w5_ ⟨vv0_, rfl, ho0_, hb⟩; refine ⟨_, rfl, ?_⟩; obtain ⟨Ao2_0, co2_0, ev_⟩ := Kd.R_slice ho0_; subst ev_; have n_ := Aside0.mk (HM.out.addR hb ho0_); clear HM; have HM := n_; clear n_; clear hb ho0_; have fv107 := Aside0.mk (show FnB Try.prog w5_ (.func (.func 74) #[] #[.pointer (some ⟨gb1, 0, none⟩)]) (fun x_ => impl_taken_1.f x_ a1) from FnB.mk Try.func74 rfl rfl (fun W_ hW_ x_ r_ hr_ => (show Calls Try.prog 74 #[.int .i64 x_, .pointer (some ⟨gb1, 0, none⟩)] W_ _ from drawn_calls (impl_taken_1.calls x_ _ a1 r_ W_ (blk_below (HM.out.box 1 rfl) hW_) hr_)))); have n_ : Aside0 (MS w w5_ [.row 3 (.slice Ao2_0 t106.length co2_0) (encs (Value.int .i64) t106), .box gb1 3 #[.int .i64 a1]]) := ⟨HM.out.front 0 rfl⟩; clear HM; have HM := n_; clear n_; have fm7_ := Aside0.mk (show FnM Try.prog w [.box gb1 3 #[.int .i64 a1]] (.func (.func 74) #[] #[.pointer (some ⟨gb1, 0, none⟩)]) (fun x_ => impl_taken_1.f x_ a1) from FnM.mk Try.func74 rfl rfl (fun W_ hM_ x_ r_ hr_ => (show Calls Try.prog 74 #[.int .i64 x_, .pointer (some ⟨gb1, 0, none⟩)] W_ _ from drawn_calls (impl_taken_1.calls x_ _ a1 r_ W_ (hM_.box 0 rfl) hr_))))) | ((with_reducible refine gate_callee (f := 63) rfl ?_); (with_reducible refine gate_dst (N := 8) rfl ?_); refine goesL_ (some 8) rfl rfl Try.func63 (by kernel_rfl) rfl #[.slice Ao2_0 t106.length co2_0, .func (.func 74) #[] #[.pointer (some ⟨gb1, 0, none⟩)]] rfl (by (try simp only [List.map_toArray, List.map_cons, List.map_nil]); first | done | rfl | (simp only [List.length_drop, List.length_take]; rfl)) ?_; (with_reducible refine (slices_DeleteFunc_int_int.calls _ _ _ _ t106 _ (fun x_ => impl_taken_1.f x_ a1) t108 _ HM.out fm7_.out A2_.out).mono ?_); rintro e_ w6_ ⟨Ao2_t108, co2_t108, rfl, hm_⟩; refine ⟨_, rfl, ?_⟩; have n_ := Aside0.mk hm_; clear HM hm_; have HM := n_; clear n_) | ((with_reducible refine gate_callee (f := 72) rfl ?_); (with_reducible refine gate_dst (N := 9) rfl ?_); refine goesL_ (some 9) rfl rfl Try.func72 (by kernel_rfl) rfl #[.slice Ao2_t108 t108.length co2_t108] rfl (by (try simp only [List.map_toArray, List.map_cons, List.map_nil]); first | done | rfl | (simp only [List.length_drop, List.length_take]; rfl)) ?_; (with_reducible refine (impl_reduced.calls k _ _ t108 t109 _ ?sd0 ?sd1 A3_.out).mono ?_); (case sd0 => exact (Kd.R_reads' (HM.out.R (h1 := fun _ => rfl) 0 rfl)).2.2); (case sd1 => exact (Kd.R_reads' (HM.out.R (h1 := fun _ => rfl) 0 rfl)).2.1); rintro e_ w8_ ⟨vv0_, rfl, ho0_, hb⟩; refine ⟨_, rfl, ?_⟩; obtain ⟨Ao3_0, co3_0, ev_⟩ := Kd.R_slice ho0_; subst ev_; have n_ := Aside0.mk (HM.out.addR hb ho0_); clear HM; have HM := n_; clear n_; clear hb ho0_))
  go_ret
  exact ⟨_, by first | rfl | (simp; done) | (simp [*]; done), HM.out.R 0 rfl, HM.out.below⟩

/-! ### impl_falls: function 69 -/
def impl_falls.f (k : Nat) (l0 : List Int) (a1 : Int) : Option (Bool) := (impl_taken.f k l0 a1).bind fun t110 => (some ((t110.length : Int) == 0))
set_option maxHeartbeats 8000000 in
set_option maxRecDepth 100000 in
theorem impl_falls.calls (k : Nat) (A0 : Option Addr) (c0 : Nat) (l0 : List Int) (a1 : Int) (r : Bool) (w : World) (hr0 : Kd.C (Kd.int .i64) w A0 l0.length l0) (hc0 : l0.length ≤ c0) (h : impl_falls.f k l0 a1 = some r) :
    Calls Try.prog 69 #[.slice A0 l0.length c0, .int .i64 a1] w fun e w' => e = .returned (.bool r) ∧ Below w.heap.size w w' := by
  have HR0 := Aside0.mk hr0
  have HC0 := Aside0.mk hc0
  clear hr0 hc0
  have HM := Aside0.mk (MS.start w)
  have H : ((impl_taken.f k l0 a1).bind fun t110 => (some ((t110.length : Int) == 0))) = some r := h
  clear h
  replace H := Option.bind_eq_some_iff.mp H
  obtain ⟨t110, A1_0, H⟩ := H
  replace H : (some ((t110.length : Int) == 0)) = some r := H
  have A1_ := Aside0.mk A1_0
  clear A1_0
  obtain rfl := Option.some.inj H
  go_enter Try.func69, Try.ntmps69
  go_wp2_with (first | ((with_reducible refine gate_callee (f := 71) rfl ?_); (with_reducible refine gate_dst (N := 7) rfl ?_); refine goesL_ (some 7) rfl rfl Try.func71 (by kernel_rfl) rfl #[.slice A0 l0.length c0, .int .i64 a1] rfl (by (try simp only [List.map_toArray, List.map_cons, List.map_nil]); first | done | rfl | (simp only [List.length_drop, List.length_take]; rfl)) ?_; (with_reducible refine (impl_taken.calls k _ _ l0 a1 t110 _ ?sd0 ?sd1 A1_.out).mono ?_); (case sd0 => exact (Kd.C_below HR0.out HM.out.below)); (case sd1 => exact HC0.out); rintro e_ w2_ ⟨vv0_, rfl, ho0_, hb⟩; refine ⟨_, rfl, ?_⟩; obtain ⟨Ao1_0, co1_0, ev_⟩ := Kd.R_slice ho0_; subst ev_; have n_ := Aside0.mk (HM.out.addR hb ho0_); clear HM; have HM := n_; clear n_; clear hb ho0_))
  go_ret
  exact ⟨by first | rfl | (simp; done) | (simp [*]; done), HM.out.below⟩

/-! ### impl_fallTable: function 61 -/
def impl_fallTable.l0 : Nat → (List Int) → (Int) → (List Bool) → Option (List Bool)
  | 0, _, _, _ => none
  | k + 1, x0, x6, m2 => if x6 < 64 then ((impl_falls.f k x0 x6).bind fun t111 => (if 0 ≤ x6 then (impl_fallTable.l0 k x0 (wrap64 (x6 + 1)) (m2.set (x6 : Int).toNat t111)) else (none))) else (some m2)
def impl_fallTable.f (k : Nat) (l0 : List Int) : Option (List Bool) := impl_fallTable.l0 k l0 0 (List.replicate 64 false)
set_option maxHeartbeats 8000000 in
set_option maxRecDepth 100000 in
theorem impl_fallTable.calls (k : Nat) (A0 : Option Addr) (c0 : Nat) (l0 : List Int) (r : List Bool) (w : World) (hr0 : Kd.C (Kd.int .i64) w A0 l0.length l0) (hc0 : l0.length ≤ c0) (h : impl_fallTable.f k l0 = some r) :
    Calls Try.prog 61 #[.slice A0 l0.length c0] w fun e w' => e = .returned (.agg (bcs r)) ∧ r.length = 64 ∧ Below w.heap.size w w' := by
  have HR0 := Aside0.mk hr0
  have HC0 := Aside0.mk hc0
  clear hr0 hc0
  have hu44 := Try.underlying44
  have HM := Aside0.mk (MS.start w)
  have H : (impl_fallTable.l0 k l0 0 (List.replicate 64 false)) = some r := h
  clear h
  have H' := Aside0.mk H
  clear H
  go_enter Try.func61, Try.ntmps61
  go_wp2_with (first | ((with_reducible refine gate_dst (N := 2) rfl ?_); refine box_event ?hg (N := 2) ?hd (cs := (bcs (List.replicate 64 false))) (t := 44) ?hr ?_; (case hd => rfl); (case hg => rfl); (case hr => first | (go_simp; done) | (go_simp; rfl)); intro gb1 hg w1_ hbox hb; have n_ := Aside0.mk (HM.out.addBox hb hbox hg); clear HM; have HM := n_; clear n_; clear hb hbox hg) | ((with_reducible refine gate_dst (N := 5) rfl ?_); refine build_zero ?hg (N := 5) ?hd (cs := (bcs (List.replicate 64 false))) ?hr ?_; (case hd => rfl); (case hg => rfl); (case hr => first | (go_simp; done) | (go_simp; rfl))) | ((with_reducible refine gate_dst (N := 3) rfl ?_); refine box_event ?hg (N := 3) ?hd (cs := (bcs (List.replicate 64 false))) (t := 44) ?hr ?_; (case hd => rfl); (case hg => rfl); (case hr => first | (go_simp; done) | (go_simp; rfl)); intro gb2 hg w2_ hbox hb; have n_ := Aside0.mk (HM.out.addBox hb hbox hg); clear HM; have HM := n_; clear n_; clear hb hbox hg) | ((with_reducible refine gate_store (t := 44) (p := 3) rfl ?_); refine wpList_store_row rfl _ _ _ rfl gb2 (bcs (List.replicate 64 false)) rfl rfl 44 (bcs (List.replicate 64 false)) (HM.out.box 0 rfl) (by rw [bcs_size, (List.length_replicate)]; kernel_rfl) ((bcs_size _).trans (((List.length_replicate)).trans ((show _ = 64 from (List.length_replicate)).symm.trans (bcs_size _).symm))) (bcs_one _) ?_; generalize hw : World.setRow _ _ _ = w3_; have n_ : Aside0 (MS w w3_ [.box gb2 44 (bcs (List.replicate 64 false)), .box gb1 44 (bcs (List.replicate 64 false))]) := ⟨by rw [← hw]; exact HM.out.setRow 0 rfl _⟩; clear HM hw; have HM := n_; clear n_))
  go_loopg [6] k (fun kq v6 w' => ∃ (x6_4 : Int) (m2_4 : List Bool), v6 = .int .i64 x6_4 ∧ Aside0 (impl_fallTable.l0 kq l0 x6_4 m2_4 = some r) ∧ Aside0 (kq ≤ k) ∧ Aside0 (m2_4.length = 64) ∧ Aside0 (MS w w' [.box gb2 44 (bcs m2_4), .box gb1 44 (bcs (List.replicate 64 false))]))
  case atStart => exact ⟨(0), ((List.replicate 64 false)), (by first | rfl | (simp; done) | (simp [*]; done)), H', ⟨Nat.le_refl _⟩, ⟨(List.length_replicate)⟩, HM⟩
  case round =>
    clear H'
    clear HM
    obtain ⟨x6_4, m2_4, rfl, HA, HK5_, HLm2_4, HM⟩ := hrel
    cases gk with
    | zero => exact absurd HA.out (by simp [impl_fallTable.l0])
    | succ k6_ =>
      have H := HA.out
      clear HA
      simp only [impl_fallTable.l0] at H
      by_cases c7_ : x6_4 < 64
      · rw [if_pos c7_] at H
        have c7_b0 : decide (x6_4 < 64) = true := decide_eq_true c7_
        clear c7_
        replace H := Option.bind_eq_some_iff.mp H
        obtain ⟨t111, A8_0, H⟩ := H
        replace H : (if 0 ≤ x6_4 then (impl_fallTable.l0 k6_ l0 (wrap64 (x6_4 + 1)) (m2_4.set (x6_4 : Int).toNat t111)) else (none)) = some r := H
        have A8_ := Aside0.mk A8_0
        clear A8_0
        by_cases c9_ : 0 ≤ x6_4
        · rw [if_pos c9_] at H
          have c9_b0 : decide (0 ≤ x6_4) = true := decide_eq_true c9_
          clear c9_
          obtain ⟨y112, hy112⟩ : ∃ y_, y_ = (m2_4.set (x6_4 : Int).toNat t111) := ⟨_, rfl⟩
          replace H : (impl_fallTable.l0 k6_ l0 (wrap64 (x6_4 + 1)) y112) = some r := by first | (rw [hy112]; with_reducible exact H) | (have H2_ := (Option.bind_some _ _).symm.trans H; rw [hy112]; with_reducible exact H2_) | (have H2_ := (Option.bind_some _ _).symm.trans H; with_reducible exact H2_) | with_reducible exact H | (rw [hy112]; exact H) | exact H
          have Ny112 := Aside0.mk hy112
          clear hy112
          have H' := Aside0.mk H
          clear H
          go_wp2_with (first | ((with_reducible refine gate_callee (f := 69) rfl ?_); (with_reducible refine gate_dst (N := 12) rfl ?_); refine goesL_ (some 12) rfl rfl Try.func69 (by kernel_rfl) rfl #[.slice A0 l0.length c0, .int .i64 x6_4] rfl (by (try simp only [List.map_toArray, List.map_cons, List.map_nil]); first | done | rfl | (simp only [List.length_drop, List.length_take]; rfl)) ?_; (with_reducible refine (impl_falls.calls k6_ _ _ l0 x6_4 t111 _ ?sd0 ?sd1 A8_.out).mono ?_); (case sd0 => exact (Kd.C_below HR0.out HM.out.below)); (case sd1 => exact HC0.out); rintro e_ w10_ ⟨rfl, hb⟩; refine ⟨_, rfl, ?_⟩; have n_ := Aside0.mk (HM.out.step hb); clear HM; have HM := n_; clear n_; clear hb; have p113 : 0 ≤ (x6_4 : Int) := of_decide_eq_true (by first | (with_reducible assumption) | assumption); have q113 : (x6_4 : Int) < 64 := of_decide_eq_true (by first | (with_reducible assumption) | assumption); have hx113 := bcell (HM.out.box 0 rfl) x6_4 p113 (by have := HLm2_4.out; omega); have hf113 := blk_frozen (HM.out.box 0 rfl) (x6_4 : Int).toNat; replace p113 := eq_true p113; replace q113 := eq_true q113) | ((with_reducible refine gate_store (t := 4) (p := 13) rfl ?_); refine store_event (t := 4) (p := 13) (v := ?vow11_) (w1 := (w10_.setCell ⟨gb2, (x6_4 : Int).toNat, none⟩ (.bool t111))) ?hg ?ho ?hn ?hr ?_; (case ho => rfl); (case hg => rfl); (case hn => rfl); (case hr => first | (go_simp; done) | (go_simp; rfl)); intro w11_ hw; have n_ : Aside0 (MS w w11_ [.box gb2 44 (bcs y112), .box gb1 44 (bcs (List.replicate 64 false))]) := ⟨by rw [hw]; exact HM.out.setBox 0 rfl _ _ (by rw [bcs_set, ← Ny112.out])⟩; clear HM hw; have HM := n_; clear n_))
          go_roundg k6_
          case measure => have hHK5__ := HK5_.out; omega
          case rel => exact ⟨(wrap64 (x6_4 + 1)), (y112), (by first | rfl | (simp; done) | (simp [*]; done)), H', ⟨by have hHK5__ := HK5_.out; omega⟩, ⟨(by rw [Ny112.out, List.length_set]; exact HLm2_4.out)⟩, HM⟩
        · rw [if_neg c9_] at H
          have c9_b0 : decide (0 ≤ x6_4) = false := decide_eq_false c9_
          clear c9_
          exact absurd H (by simp)
      · rw [if_neg c7_] at H
        have c7_b0 : decide (x6_4 < 64) = false := decide_eq_false c7_
        clear c7_
        obtain rfl := Option.some.inj H
        go_wp2_with (first | ((with_reducible refine gate_dst (N := 15) rfl ?_); refine wpList_load_row rfl _ _ rfl gb2 rfl 44 (bcs m2_4) (0, 0) _ (HM.out.box 0 rfl) Try.underlying44 rfl (by rw [bcs_size, HLm2_4.out]; kernel_rfl) ?_) | ((with_reducible refine gate_store (t := 44) (p := 2) rfl ?_); refine wpList_store_row rfl _ _ _ rfl gb1 (bcs m2_4) rfl rfl 44 (bcs (List.replicate 64 false)) (HM.out.box 1 rfl) (by rw [bcs_size, HLm2_4.out]; kernel_rfl) ((bcs_size _).trans (((List.length_replicate)).trans ((show _ = 64 from HLm2_4.out).symm.trans (bcs_size _).symm))) (bcs_one _) ?_; generalize hw : World.setRow _ _ _ = w12_; have n_ : Aside0 (MS w w12_ [.box gb2 44 (bcs m2_4), .box gb1 44 (bcs m2_4)]) := ⟨by rw [← hw]; exact HM.out.setRow 1 rfl _⟩; clear HM hw; have HM := n_; clear n_))
        refine bodyPost_ret (results_cell_row rfl _ _ gb1 44 (bcs m2_4) (0, 0) _ rfl (HM.out.box 1 rfl) Try.underlying44 rfl (by rw [bcs_size, HLm2_4.out]; kernel_rfl)) rfl ?_
        exact ⟨by first | rfl | (simp; done) | (simp [*]; done), HLm2_4.out, HM.out.below⟩

end Go.Proofs.Ytbnhnmcbaacdiaa.Q
