-- Written by a program of this session's own (wip/wgen.py): what functions of the program compute, and that they do.
import Derived.Below
import Derived.Deep.Draws
import Derived.Deep.AppendLies
import Derived.Maps.AppendAt
import Derived.OwnWalk
import Derived.Laws.BytesArg
import Derived.Laws.MakeOwn
import Derived.Laws.OwnMore
import Derived.Deep.OwnRows
import Derived.Tactics
import Derived.Lib.ConvBytes
import Derived.Laws.Slices
import Derived.WalkKit
import Derived.KernelRfl
import Derived.RowKit3
import Derived.Deep.LoopGhost
import Derived.Deep.QuietTactic
import Derived.BigQuiet
import Derived.WideLaws
import Derived.Deep.DeepCutAuto
import Derived.Deep.CutBlock
import Derived.Deep.RegionHeld3
import Derived.Laws.Rows
import Derived.Lib.AppendStr
import Derived.ArgAppend
import Derived.Laws.IdiomCopy
import Derived.OrdersHeld
import Derived.Laws.BitsLemmas
import Derived.RowKit
import Derived.Test.YtncdgimmalifjaaHM
import Derived.Test.YtncdgimmalifjaaProg
import Derived.Test.YtncdgimmalifjaaQA
import Derived.Test.YtncdgimmalifjaaQB
namespace Go.Proofs.Ytncdgimmalifjaa.Q
open Go.RowKit Go.Proofs.YtncdgimmalifjaaW.PrintWords Go.Proofs.YtncdgimmalifjaaW.PrintLast Go.Proofs.YtncdgimmalifjaaW.PrintMore Go.Proofs.YtncdgimmalifjaaM
attribute [local go_sem] max2_int min2_int max_two min_two max_three min_three max_four min_four
set_option linter.unusedVariables false
set_option linter.unusedSimpArgs false

/-! ### spec_l3In: function 70 -/
def spec_l3In.f (a0 : Int) (a1 : Int) : Option (Bool) := if 0 ≤ (wrap64 (a1 - 1)) then (some ((Go.bits .and .i64 (shr .i64 a0 (wrap64 (a1 - 1))) 1) == 1)) else (none)
set_option maxHeartbeats 8000000 in
set_option maxRecDepth 100000 in
theorem spec_l3In.calls (a0 : Int) (a1 : Int) (r : Bool) (w : World)  (h : spec_l3In.f a0 a1 = some r) :
    Calls Try.prog 70 #[.int .i64 a0, .int .i64 a1] w fun e w' => e = .returned (.bool r) ∧ Drawn0 w w' := by
  have HM := Aside0.mk (MS.start w)
  have HD := Aside0.mk (Drawn0.refl w)
  have H : (if 0 ≤ (wrap64 (a1 - 1)) then (some ((Go.bits .and .i64 (shr .i64 a0 (wrap64 (a1 - 1))) 1) == 1)) else (none)) = some r := h
  clear h
  obtain ⟨ji1_, hji1_⟩ : ∃ j_ : Int, (wrap64 (a1 - 1)) = j_ := ⟨_, rfl⟩
  replace H : (if 0 ≤ ji1_ then (some ((Go.bits .and .i64 (shr .i64 a0 ji1_) 1) == 1)) else (none)) = some r := by first | (rw [hji1_] at H; exact H) | (simp only [hji1_] at H ⊢; exact H)
  have hji1_w : (IntKind.i64.wrap (a1 - 1)) = ji1_ := (i64_w _).trans hji1_
  by_cases c2_ : 0 ≤ ji1_
  · rw [if_pos c2_] at H
    have c2_x := eq_true c2_
    have c2_b0 : decide (0 ≤ ji1_) = true := decide_eq_true c2_
    clear c2_
    obtain ⟨ji3_, hji3_⟩ : ∃ j_ : Int, (shr .i64 a0 ji1_) = j_ := ⟨_, rfl⟩
    replace H : (some ((Go.bits .and .i64 ji3_ 1) == 1)) = some r := by first | (rw [hji3_] at H; exact H) | (simp only [hji3_] at H ⊢; exact H)
    have hji3__ : (a0 / 2 ^ min (ji1_).toNat 64) = ji3_ := hji3_
    have hji3_z : (ji1_) ≤ 64 → (a0 / 2 ^ (ji1_).toNat) = ji3_ := shr_small hji3_
    obtain rfl := Option.some.inj H
    go_enter Try.func70, Try.ntmps70
    go_wp2
    go_ret
    exact ⟨by first | rfl | (simp; done) | (simp only [← hji1_, ← hji3_] <;> (first | rfl | simp)) | (simp [*]; done), HD.out⟩
  · rw [if_neg c2_] at H
    have c2_b0 : decide (0 ≤ ji1_) = false := decide_eq_false c2_
    clear c2_
    exact absurd H (by simp)

/-! ### spec_l3Many: function 45 -/
def spec_l3Many.l0 : Nat → (Int) → (Int) → (Int) → Option (Int)
  | 0, _, _, _ => none
  | k + 1, x0, x3, x4 => if x4 ≤ 6 then ((spec_l3In.f x0 x4).bind fun t186 => (if t186 = true then (spec_l3Many.l0 k x0 (wrap64 (x3 + 1)) (wrap64 (x4 + 1))) else (spec_l3Many.l0 k x0 x3 (wrap64 (x4 + 1))))) else (some x3)
def spec_l3Many.f (k : Nat) (a0 : Int) : Option (Int) := spec_l3Many.l0 k a0 0 1
set_option maxHeartbeats 8000000 in
set_option maxRecDepth 100000 in
theorem spec_l3Many.calls (k : Nat) (a0 : Int) (r : Int) (w : World)  (h : spec_l3Many.f k a0 = some r) :
    Calls Try.prog 45 #[.int .i64 a0] w fun e w' => e = .returned (.int .i64 r) ∧ Drawn0 w w' := by
  have HM := Aside0.mk (MS.start w)
  have HD := Aside0.mk (Drawn0.refl w)
  have H : (spec_l3Many.l0 k a0 0 1) = some r := h
  clear h
  have H' := Aside0.mk H
  clear H
  go_enter Try.func45, Try.ntmps45
  go_wp2
  go_loopg [3, 4] k (fun kq v3 v4 w' => ∃ (x3_1 : Int) (x4_1 : Int), v3 = .int .i64 x3_1 ∧ v4 = .int .i64 x4_1 ∧ Aside0 (spec_l3Many.l0 kq a0 x3_1 x4_1 = some r) ∧ Aside0 (kq ≤ k) ∧ Aside0 (Drawn0 w w') ∧ Aside0 (MS w w' []))
  case atStart => exact ⟨(0), (1), (by first | rfl | (simp; done) | (simp [*]; done)), (by first | rfl | (simp; done) | (simp [*]; done)), H', ⟨Nat.le_refl _⟩, HD, HM⟩
  case round =>
    clear H'
    clear HM HD
    obtain ⟨x3_1, x4_1, rfl, rfl, HA, HK2_, HD, HM⟩ := hrel
    cases gk with
    | zero => exact absurd HA.out (by simp [spec_l3Many.l0])
    | succ k3_ =>
      have H := HA.out
      clear HA
      simp only [spec_l3Many.l0] at H
      by_cases c4_ : x4_1 ≤ 6
      · rw [if_pos c4_] at H
        have c4_b0 : decide (x4_1 ≤ 6) = true := decide_eq_true c4_
        clear c4_
        replace H := Option.bind_eq_some_iff.mp H
        obtain ⟨t186, A5_0, H⟩ := H
        replace H : (if t186 = true then (spec_l3Many.l0 k3_ a0 (wrap64 (x3_1 + 1)) (wrap64 (x4_1 + 1))) else (spec_l3Many.l0 k3_ a0 x3_1 (wrap64 (x4_1 + 1)))) = some r := H
        have A5_ := Aside0.mk A5_0
        clear A5_0
        by_cases c6_ : t186 = true
        · subst c6_
          have H1 : (spec_l3Many.l0 k3_ a0 (wrap64 (x3_1 + 1)) (wrap64 (x4_1 + 1))) = some r := by rw [if_pos rfl] at H; exact H
          clear H
          have H := H1
          clear H1
          have H' := Aside0.mk H
          clear H
          go_wp2_with (first | ((with_reducible refine gate_callee (f := 70) rfl ?_); (with_reducible refine gate_dst (N := 11) rfl ?_); refine goesL_ (some 11) rfl rfl Try.func70 (by kernel_rfl) rfl #[.int .i64 a0, .int .i64 x4_1] rfl (by (try simp only [List.map_toArray, List.map_cons, List.map_nil]); first | done | rfl | (simp only [List.length_drop, List.length_take]; rfl)) ?_; (with_reducible refine (spec_l3In.calls a0 x4_1 true _  A5_.out).mono ?_); rintro e_ w7_ ⟨rfl, hd_⟩; refine ⟨_, rfl, ?_⟩; have hb := hd_.below; have nd_ := Aside0.mk (HD.out.trans hd_); clear HD; have HD := nd_; clear nd_; clear hd_; have n_ := Aside0.mk (HM.out.step hb); clear HM; have HM := n_; clear n_; clear hb))
          go_roundg k3_
          case measure => have hHK2__ := HK2_.out; omega
          case rel => exact ⟨(wrap64 (x3_1 + 1)), (wrap64 (x4_1 + 1)), (by first | rfl | (simp; done) | (simp [*]; done)), (by first | rfl | (simp; done) | (simp [*]; done)), H', ⟨by have hHK2__ := HK2_.out; omega⟩, HD, HM⟩
        · replace c6_ := Bool.eq_false_iff.mpr c6_
          subst c6_
          have H1 : (spec_l3Many.l0 k3_ a0 x3_1 (wrap64 (x4_1 + 1))) = some r := by rw [if_neg (show ¬ (false = true) by decide)] at H; exact H
          clear H
          have H := H1
          clear H1
          have H' := Aside0.mk H
          clear H
          go_wp2_with (first | ((with_reducible refine gate_callee (f := 70) rfl ?_); (with_reducible refine gate_dst (N := 11) rfl ?_); refine goesL_ (some 11) rfl rfl Try.func70 (by kernel_rfl) rfl #[.int .i64 a0, .int .i64 x4_1] rfl (by (try simp only [List.map_toArray, List.map_cons, List.map_nil]); first | done | rfl | (simp only [List.length_drop, List.length_take]; rfl)) ?_; (with_reducible refine (spec_l3In.calls a0 x4_1 false _  A5_.out).mono ?_); rintro e_ w8_ ⟨rfl, hd_⟩; refine ⟨_, rfl, ?_⟩; have hb := hd_.below; have nd_ := Aside0.mk (HD.out.trans hd_); clear HD; have HD := nd_; clear nd_; clear hd_; have n_ := Aside0.mk (HM.out.step hb); clear HM; have HM := n_; clear n_; clear hb))
          go_roundg k3_
          case measure => have hHK2__ := HK2_.out; omega
          case rel => exact ⟨(x3_1), (wrap64 (x4_1 + 1)), (by first | rfl | (simp; done) | (simp [*]; done)), (by first | rfl | (simp; done) | (simp [*]; done)), H', ⟨by have hHK2__ := HK2_.out; omega⟩, HD, HM⟩
      · rw [if_neg c4_] at H
        have c4_b0 : decide (x4_1 ≤ 6) = false := decide_eq_false c4_
        clear c4_
        obtain rfl := Option.some.inj H
        go_wp2
        go_ret
        exact ⟨by first | rfl | (simp; done) | (simp [*]; done), HD.out⟩

/-! ### spec_ThresholdFamily: function 19 -/
def spec_ThresholdFamily.l0 : Nat → (Int) → (Int) → (Int) → (List Bool) → Option (List Int × Bool)
  | 0, _, _, _, _ => none
  | k + 1, x0, x1, x7, m2 => if x7 < 64 then (if 0 ≤ x0 then ((spec_l3Many.f k (Go.bits .and .i64 x7 (wrap64 ((shl .i64 1 x0) - 1)))).bind fun t189 => (if 0 ≤ x7 then (spec_ThresholdFamily.l0 k x0 x1 (wrap64 (x7 + 1)) (m2.set (x7 : Int).toNat (decide (t189 ≥ x1)))) else (none))) else (none)) else ((spec_l5Made.f k m2).bind fun t192 => (some (t192, true)))
def spec_ThresholdFamily.f (k : Nat) (a0 : Int) (a1 : Int) : Option (List Int × Bool) := (spec_l1In.f a0 0 6).bind fun t187 => (if t187 = true then ((spec_l1In.f a1 0 (wrap64 (a0 + 1))).bind fun t188 => (if t188 = true then (spec_ThresholdFamily.l0 k a0 a1 0 (List.replicate 64 false)) else (some ([], false)))) else (some ([], false)))
set_option maxHeartbeats 8000000 in
set_option maxRecDepth 100000 in
theorem spec_ThresholdFamily.calls (k : Nat) (a0 : Int) (a1 : Int) (r1 : List Int) (r2 : Bool) (w : World)  (h : spec_ThresholdFamily.f k a0 a1 = some (r1, r2)) :
    Calls Try.prog 19 #[.int .i64 a0, .int .i64 a1] w fun e w' => ∃ v0_ : Value, e = .returned (.tuple #[.agg #[v0_], .bool r2]) ∧ Kd.R (Kd.int .i64) 3 w' w.heap.size (fun _ => True) v0_ r1 ∧ Below w.heap.size w w' := by
  have hu24 := Try.underlying24
  have hu46 := Try.underlying46
  have HM := Aside0.mk (MS.start w)
  have H : ((spec_l1In.f a0 0 6).bind fun t187 => (if t187 = true then ((spec_l1In.f a1 0 (wrap64 (a0 + 1))).bind fun t188 => (if t188 = true then (spec_ThresholdFamily.l0 k a0 a1 0 (List.replicate 64 false)) else (some ([], false)))) else (some ([], false)))) = some (r1, r2) := h
  clear h
  replace H := Option.bind_eq_some_iff.mp H
  obtain ⟨t187, A1_0, H⟩ := H
  replace H : (if t187 = true then ((spec_l1In.f a1 0 (wrap64 (a0 + 1))).bind fun t188 => (if t188 = true then (spec_ThresholdFamily.l0 k a0 a1 0 (List.replicate 64 false)) else (some ([], false)))) else (some ([], false))) = some (r1, r2) := H
  have A1_ := Aside0.mk A1_0
  clear A1_0
  by_cases c2_ : t187 = true
  · subst c2_
    have H1 : ((spec_l1In.f a1 0 (wrap64 (a0 + 1))).bind fun t188 => (if t188 = true then (spec_ThresholdFamily.l0 k a0 a1 0 (List.replicate 64 false)) else (some ([], false)))) = some (r1, r2) := by rw [if_pos rfl] at H; exact H
    clear H
    have H := H1
    clear H1
    replace H := Option.bind_eq_some_iff.mp H
    obtain ⟨t188, A3_0, H⟩ := H
    replace H : (if t188 = true then (spec_ThresholdFamily.l0 k a0 a1 0 (List.replicate 64 false)) else (some ([], false))) = some (r1, r2) := H
    have A3_ := Aside0.mk A3_0
    clear A3_0
    by_cases c4_ : t188 = true
    · subst c4_
      have H1 : (spec_ThresholdFamily.l0 k a0 a1 0 (List.replicate 64 false)) = some (r1, r2) := by rw [if_pos rfl] at H; exact H
      clear H
      have H := H1
      clear H1
      have H' := Aside0.mk H
      clear H
      go_enter Try.func19, Try.ntmps19
      go_wp2_with (first | ((with_reducible refine gate_dst (N := 4) rfl ?_); refine box_event ?hg (N := 4) ?hd (cs := #[.slice none 0 0]) (t := 24) ?hr ?_; (case hd => rfl); (case hg => rfl); (case hr => first | (go_simp; done) | (go_simp; rfl)); intro gb1 hg w5_ hbox hb; have n_ := Aside0.mk (HM.out.addBox hb hbox hg); clear HM; have HM := n_; clear n_; clear hb hbox hg) | ((with_reducible refine gate_callee (f := 44) rfl ?_); (with_reducible refine gate_dst (N := 9) rfl ?_); refine goesL_ (some 9) rfl rfl Try.func44 (by kernel_rfl) rfl #[.int .i64 a0, .int .i64 0, .int .i64 6] rfl (by (try simp only [List.map_toArray, List.map_cons, List.map_nil]); first | done | rfl | (simp only [List.length_drop, List.length_take]; rfl)) ?_; (with_reducible refine (spec_l1In.calls a0 0 6 true _  A1_.out).mono ?_); rintro e_ w6_ ⟨rfl, hd_⟩; refine ⟨_, rfl, ?_⟩; have hb := hd_.below; clear hd_; have n_ := Aside0.mk (HM.out.step hb); clear HM; have HM := n_; clear n_; clear hb) | (go_at_call 44; (refine calls_of_args (args' := #[.int .i64 a1, .int .i64 0, .int .i64 (wrap64 (a0 + 1))]) (by first | done | rfl) ?_); (with_reducible refine (spec_l1In.calls a1 0 (wrap64 (a0 + 1)) true _  A3_.out).mono ?_); rintro e_ w7_ ⟨rfl, hd_⟩; have hb := hd_.below; clear hd_; have n_ := Aside0.mk (HM.out.step hb); clear HM; have HM := n_; clear n_; clear hb) | ((with_reducible refine gate_dst (N := 19) rfl ?_); refine build_zero ?hg (N := 19) ?hd (cs := (bcs (List.replicate 64 false))) ?hr ?_; (case hd => rfl); (case hg => rfl); (case hr => first | (go_simp; done) | (go_simp; rfl))) | ((with_reducible refine gate_dst (N := 6) rfl ?_); refine box_event ?hg (N := 6) ?hd (cs := (bcs (List.replicate 64 false))) (t := 46) ?hr ?_; (case hd => rfl); (case hg => rfl); (case hr => first | (go_simp; done) | (go_simp; rfl)); intro gb2 hg w8_ hbox hb; have n_ := Aside0.mk (HM.out.addBox hb hbox hg); clear HM; have HM := n_; clear n_; clear hb hbox hg) | ((with_reducible refine gate_store (t := 46) (p := 6) rfl ?_); refine wpList_store_row rfl _ _ _ rfl gb2 (bcs (List.replicate 64 false)) rfl rfl 46 (bcs (List.replicate 64 false)) (HM.out.box 0 rfl) (by rw [bcs_size, (List.length_replicate)]; kernel_rfl) ((bcs_size _).trans (((List.length_replicate)).trans ((show _ = 64 from (List.length_replicate)).symm.trans (bcs_size _).symm))) (bcs_one _) ?_; generalize hw : World.setRow _ _ _ = w9_; have n_ : Aside0 (MS w w9_ [.box gb2 46 (bcs (List.replicate 64 false)), .box gb1 24 #[.slice none 0 0]]) := ⟨by rw [← hw]; exact HM.out.setRow 0 rfl _⟩; clear HM hw; have HM := n_; clear n_))
      go_loopg [7] k (fun kq v7 w' => ∃ (x7_10 : Int) (m2_10 : List Bool), v7 = .int .i64 x7_10 ∧ Aside0 (spec_ThresholdFamily.l0 kq a0 a1 x7_10 m2_10 = some (r1, r2)) ∧ Aside0 (kq ≤ k) ∧ Aside0 (m2_10.length = 64) ∧ Aside0 (MS w w' [.box gb2 46 (bcs m2_10), .box gb1 24 #[.slice none 0 0]]))
      case atStart => exact ⟨(0), ((List.replicate 64 false)), (by first | rfl | (simp; done) | (simp [*]; done)), H', ⟨Nat.le_refl _⟩, ⟨(List.length_replicate)⟩, HM⟩
      case round =>
        clear H'
        clear HM
        obtain ⟨x7_10, m2_10, rfl, HA, HK11_, HLm2_10, HM⟩ := hrel
        cases gk with
        | zero => exact absurd HA.out (by simp [spec_ThresholdFamily.l0])
        | succ k12_ =>
          have H := HA.out
          clear HA
          simp only [spec_ThresholdFamily.l0] at H
          by_cases c13_ : x7_10 < 64
          · rw [if_pos c13_] at H
            have c13_b0 : decide (x7_10 < 64) = true := decide_eq_true c13_
            clear c13_
            by_cases c14_ : 0 ≤ a0
            · rw [if_pos c14_] at H
              have c14_x := eq_true c14_
              have c14_b0 : decide (0 ≤ a0) = true := decide_eq_true c14_
              clear c14_
              obtain ⟨ji15_, hji15_⟩ : ∃ j_ : Int, (shl .i64 1 a0) = j_ := ⟨_, rfl⟩
              replace H : ((spec_l3Many.f k12_ (Go.bits .and .i64 x7_10 (wrap64 (ji15_ - 1)))).bind fun t189 => (if 0 ≤ x7_10 then (spec_ThresholdFamily.l0 k12_ a0 a1 (wrap64 (x7_10 + 1)) (m2_10.set (x7_10 : Int).toNat (decide (t189 ≥ a1)))) else (none))) = some (r1, r2) := by first | (rw [hji15_] at H; exact H) | (simp only [hji15_] at H ⊢; exact H)
              have hji15__ : (IntKind.i64.wrap (1 * 2 ^ min (a0).toNat 64)) = ji15_ := hji15_
              have hji15_z : (a0) ≤ 64 → (IntKind.i64.wrap (1 * 2 ^ (a0).toNat)) = ji15_ := shl_small hji15_
              have hji15_u : (IntKind.i64.wrap (2 ^ min (a0).toNat 64)) = ji15_ := by have h_ := hji15__; rw [Int.one_mul] at h_; exact h_
              have hji15_v : (a0) ≤ 64 → (IntKind.i64.wrap (2 ^ (a0).toNat)) = ji15_ := fun hle_ => by have h_ := hji15_z hle_; rw [Int.one_mul] at h_; exact h_
              have hji15_y : (wrap64 (1 * 2 ^ min (a0).toNat 64)) = ji15_ := (i64_w _).symm.trans hji15__
              have hji15_x : (a0) ≤ 64 → (wrap64 (1 * 2 ^ (a0).toNat)) = ji15_ := fun h_ => (i64_w _).symm.trans (hji15_z h_)
              replace H := Option.bind_eq_some_iff.mp H
              obtain ⟨t189, A16_0, H⟩ := H
              replace H : (if 0 ≤ x7_10 then (spec_ThresholdFamily.l0 k12_ a0 a1 (wrap64 (x7_10 + 1)) (m2_10.set (x7_10 : Int).toNat (decide (t189 ≥ a1)))) else (none)) = some (r1, r2) := H
              have A16_ := Aside0.mk A16_0
              clear A16_0
              by_cases c17_ : 0 ≤ x7_10
              · rw [if_pos c17_] at H
                have c17_b0 : decide (0 ≤ x7_10) = true := decide_eq_true c17_
                clear c17_
                obtain ⟨y190, hy190⟩ : ∃ y_, y_ = (m2_10.set (x7_10 : Int).toNat (decide (t189 ≥ a1))) := ⟨_, rfl⟩
                replace H : (spec_ThresholdFamily.l0 k12_ a0 a1 (wrap64 (x7_10 + 1)) y190) = some (r1, r2) := by first | (rw [hy190]; with_reducible exact H) | (have H2_ := (Option.bind_some _ _).symm.trans H; rw [hy190]; with_reducible exact H2_) | (have H2_ := (Option.bind_some _ _).symm.trans H; with_reducible exact H2_) | with_reducible exact H | (rw [hy190]; exact H) | exact H
                have Ny190 := Aside0.mk hy190
                clear hy190
                have H' := Aside0.mk H
                clear H
                go_wp2_with (first | ((with_reducible refine gate_callee (f := 45) rfl ?_); (with_reducible refine gate_dst (N := 30) rfl ?_); refine goesL_ (some 30) rfl rfl Try.func45 (by kernel_rfl) rfl #[.int .i64 (Go.bits .and .i64 x7_10 (wrap64 (ji15_ - 1)))] rfl (by (try simp only [List.map_toArray, List.map_cons, List.map_nil]); first | done | rfl | (simp only [List.length_drop, List.length_take]; rfl)) ?_; (with_reducible refine (spec_l3Many.calls k12_ (Go.bits .and .i64 x7_10 (wrap64 (ji15_ - 1))) t189 _  A16_.out).mono ?_); rintro e_ w18_ ⟨rfl, hd_⟩; refine ⟨_, rfl, ?_⟩; have hb := hd_.below; clear hd_; have n_ := Aside0.mk (HM.out.step hb); clear HM; have HM := n_; clear n_; clear hb; have p191 : 0 ≤ (x7_10 : Int) := of_decide_eq_true (by first | (with_reducible assumption) | assumption); have q191 : (x7_10 : Int) < 64 := of_decide_eq_true (by first | (with_reducible assumption) | assumption); have hx191 := bcell (HM.out.box 0 rfl) x7_10 p191 (by have := HLm2_10.out; omega); have hf191 := blk_frozen (HM.out.box 0 rfl) (x7_10 : Int).toNat; replace p191 := eq_true p191; replace q191 := eq_true q191) | ((with_reducible refine gate_store (t := 4) (p := 33) rfl ?_); refine store_event (t := 4) (p := 33) (v := ?vow19_) (w1 := (w18_.setCell ⟨gb2, (x7_10 : Int).toNat, none⟩ (.bool (decide (t189 ≥ a1))))) ?hg ?ho ?hn ?hr ?_; (case ho => rfl); (case hg => rfl); (case hn => rfl); (case hr => first | (go_simp; done) | (go_simp; rfl)); intro w19_ hw; have n_ : Aside0 (MS w w19_ [.box gb2 46 (bcs y190), .box gb1 24 #[.slice none 0 0]]) := ⟨by rw [hw]; exact HM.out.setBox 0 rfl _ _ (by rw [bcs_set, ← Ny190.out])⟩; clear HM hw; have HM := n_; clear n_))
                go_roundg k12_
                case measure => have hHK11__ := HK11_.out; omega
                case rel => exact ⟨(wrap64 (x7_10 + 1)), (y190), (by first | rfl | (simp; done) | (simp only [← hji15_] <;> (first | rfl | simp)) | (simp [*]; done)), H', ⟨by have hHK11__ := HK11_.out; omega⟩, ⟨(by rw [Ny190.out, List.length_set]; exact HLm2_10.out)⟩, HM⟩
              · rw [if_neg c17_] at H
                have c17_b0 : decide (0 ≤ x7_10) = false := decide_eq_false c17_
                clear c17_
                exact absurd H (by simp)
            · rw [if_neg c14_] at H
              have c14_b0 : decide (0 ≤ a0) = false := decide_eq_false c14_
              clear c14_
              exact absurd H (by simp)
          · rw [if_neg c13_] at H
            have c13_b0 : decide (x7_10 < 64) = false := decide_eq_false c13_
            clear c13_
            replace H := Option.bind_eq_some_iff.mp H
            obtain ⟨t192, A20_0, H⟩ := H
            replace H : (some (t192, true)) = some (r1, r2) := H
            have A20_ := Aside0.mk A20_0
            clear A20_0
            simp only [Option.some.injEq, Prod.mk.injEq] at H
            obtain ⟨rfl, rfl⟩ := H
            go_wp2_with (first | ((with_reducible refine gate_dst (N := 34) rfl ?_); refine wpList_load_row rfl _ _ rfl gb2 rfl 46 (bcs m2_10) (0, 0) _ (HM.out.box 0 rfl) Try.underlying46 rfl (by rw [bcs_size, HLm2_10.out]; kernel_rfl) ?_) | ((with_reducible refine gate_callee (f := 36) rfl ?_); (with_reducible refine gate_dst (N := 35) rfl ?_); refine goesL_ (some 35) rfl rfl Try.func36 (by kernel_rfl) rfl #[.agg (bcs m2_10)] rfl (by (try simp only [List.map_toArray, List.map_cons, List.map_nil]); first | done | rfl | (simp only [List.length_drop, List.length_take]; rfl)) ?_; (with_reducible refine (spec_l5Made.calls k12_ m2_10 t192 _ ?sd0 A20_.out).mono ?_); (case sd0 => exact HLm2_10.out); rintro e_ w21_ ⟨vv0_, rfl, ho0_, hb⟩; refine ⟨_, rfl, ?_⟩; obtain ⟨Ao3_0, co3_0, ev_⟩ := Kd.R_slice ho0_; subst ev_; have n_ := Aside0.mk (HM.out.addR hb ho0_); clear HM; have HM := n_; clear n_; clear hb ho0_; have hcz23_0 : w21_.cell? ⟨gb1, 0, none⟩ = some (.slice none 0 0) := (blk_cell (HM.out.box 2 rfl) 0).trans rfl; have hfz23_0 := blk_frozen (HM.out.box 2 rfl) 0) | ((with_reducible refine gate_store (t := 24) (p := 4) rfl ?_); refine store_event (t := 24) (p := 4) (v := ?vow22_) (w1 := (w21_.setCell ⟨gb1, 0, none⟩ (.slice Ao3_0 t192.length co3_0))) ?hg ?ho ?hn ?hr ?_; (case ho => rfl); (case hg => rfl); (case hn => rfl); (case hr => first | (go_simp; done) | (go_simp; rfl)); intro w22_ hw; have n_ : Aside0 (MS w w22_ [.row 3 (.slice Ao3_0 t192.length co3_0) (encs (Value.int .i64) t192), .box gb2 46 (bcs m2_10), .box gb1 24 #[.slice Ao3_0 t192.length co3_0]]) := ⟨by rw [hw]; exact HM.out.setBox 2 rfl _ _ rfl⟩; clear HM hw; have HM := n_; clear n_))
            refine bodyPost_ret (results_ct rfl _ _ gb1 24 #[.slice Ao3_0 t192.length co3_0] (0, 0) _ rfl (HM.out.box 2 rfl) Try.underlying24 rfl (by kernel_rfl)) rfl ?_
            exact ⟨_, by first | rfl | (simp; done) | (simp [*]; done), HM.out.R 0 rfl, HM.out.below⟩
    · replace c4_ := Bool.eq_false_iff.mpr c4_
      subst c4_
      have H1 : (some ([], false)) = some (r1, r2) := by rw [if_neg (show ¬ (false = true) by decide)] at H; exact H
      clear H
      have H := H1
      clear H1
      simp only [Option.some.injEq, Prod.mk.injEq] at H
      obtain ⟨rfl, rfl⟩ := H
      go_enter Try.func19, Try.ntmps19
      go_wp2_with (first | ((with_reducible refine gate_dst (N := 4) rfl ?_); refine box_event ?hg (N := 4) ?hd (cs := #[.slice none 0 0]) (t := 24) ?hr ?_; (case hd => rfl); (case hg => rfl); (case hr => first | (go_simp; done) | (go_simp; rfl)); intro gb1 hg w24_ hbox hb; have n_ := Aside0.mk (HM.out.addBox hb hbox hg); clear HM; have HM := n_; clear n_; clear hb hbox hg) | ((with_reducible refine gate_callee (f := 44) rfl ?_); (with_reducible refine gate_dst (N := 9) rfl ?_); refine goesL_ (some 9) rfl rfl Try.func44 (by kernel_rfl) rfl #[.int .i64 a0, .int .i64 0, .int .i64 6] rfl (by (try simp only [List.map_toArray, List.map_cons, List.map_nil]); first | done | rfl | (simp only [List.length_drop, List.length_take]; rfl)) ?_; (with_reducible refine (spec_l1In.calls a0 0 6 true _  A1_.out).mono ?_); rintro e_ w25_ ⟨rfl, hd_⟩; refine ⟨_, rfl, ?_⟩; have hb := hd_.below; clear hd_; have n_ := Aside0.mk (HM.out.step hb); clear HM; have HM := n_; clear n_; clear hb) | (go_at_call 44; (refine calls_of_args (args' := #[.int .i64 a1, .int .i64 0, .int .i64 (wrap64 (a0 + 1))]) (by first | done | rfl) ?_); (with_reducible refine (spec_l1In.calls a1 0 (wrap64 (a0 + 1)) false _  A3_.out).mono ?_); rintro e_ w26_ ⟨rfl, hd_⟩; have hb := hd_.below; clear hd_; have n_ := Aside0.mk (HM.out.step hb); clear HM; have HM := n_; clear n_; clear hb; have hcz28_0 : w26_.cell? ⟨gb1, 0, none⟩ = some (.slice none 0 0) := (blk_cell (HM.out.box 0 rfl) 0).trans rfl; have hfz28_0 := blk_frozen (HM.out.box 0 rfl) 0) | ((with_reducible refine gate_store (t := 24) (p := 4) rfl ?_); refine store_event (t := 24) (p := 4) (v := ?vow27_) (w1 := (w26_.setCell ⟨gb1, 0, none⟩ (.slice none 0 0))) ?hg ?ho ?hn ?hr ?_; (case ho => rfl); (case hg => rfl); (case hn => rfl); (case hr => first | (go_simp; done) | (go_simp; rfl)); intro w27_ hw; have n_ : Aside0 (MS w w27_ [.box gb1 24 #[.slice none 0 0]]) := ⟨by rw [hw]; exact HM.out.setBox 0 rfl _ _ rfl⟩; clear HM hw; have HM := n_; clear n_))
      refine bodyPost_ret (results_ct rfl _ _ gb1 24 #[.slice none 0 0] (0, 0) _ rfl (HM.out.box 0 rfl) Try.underlying24 rfl (by kernel_rfl)) rfl ?_
      exact ⟨_, by first | rfl | (simp; done) | (simp [*]; done), Kd.R_nil _ _ _ _ _, HM.out.below⟩
  · replace c2_ := Bool.eq_false_iff.mpr c2_
    subst c2_
    have H1 : (some ([], false)) = some (r1, r2) := by rw [if_neg (show ¬ (false = true) by decide)] at H; exact H
    clear H
    have H := H1
    clear H1
    simp only [Option.some.injEq, Prod.mk.injEq] at H
    obtain ⟨rfl, rfl⟩ := H
    go_enter Try.func19, Try.ntmps19
    go_wp2_with (first | ((with_reducible refine gate_dst (N := 4) rfl ?_); refine box_event ?hg (N := 4) ?hd (cs := #[.slice none 0 0]) (t := 24) ?hr ?_; (case hd => rfl); (case hg => rfl); (case hr => first | (go_simp; done) | (go_simp; rfl)); intro gb1 hg w29_ hbox hb; have n_ := Aside0.mk (HM.out.addBox hb hbox hg); clear HM; have HM := n_; clear n_; clear hb hbox hg) | ((with_reducible refine gate_callee (f := 44) rfl ?_); (with_reducible refine gate_dst (N := 9) rfl ?_); refine goesL_ (some 9) rfl rfl Try.func44 (by kernel_rfl) rfl #[.int .i64 a0, .int .i64 0, .int .i64 6] rfl (by (try simp only [List.map_toArray, List.map_cons, List.map_nil]); first | done | rfl | (simp only [List.length_drop, List.length_take]; rfl)) ?_; (with_reducible refine (spec_l1In.calls a0 0 6 false _  A1_.out).mono ?_); rintro e_ w30_ ⟨rfl, hd_⟩; refine ⟨_, rfl, ?_⟩; have hb := hd_.below; clear hd_; have n_ := Aside0.mk (HM.out.step hb); clear HM; have HM := n_; clear n_; clear hb; have hcz32_0 : w30_.cell? ⟨gb1, 0, none⟩ = some (.slice none 0 0) := (blk_cell (HM.out.box 0 rfl) 0).trans rfl; have hfz32_0 := blk_frozen (HM.out.box 0 rfl) 0) | ((with_reducible refine gate_store (t := 24) (p := 4) rfl ?_); refine store_event (t := 24) (p := 4) (v := ?vow31_) (w1 := (w30_.setCell ⟨gb1, 0, none⟩ (.slice none 0 0))) ?hg ?ho ?hn ?hr ?_; (case ho => rfl); (case hg => rfl); (case hn => rfl); (case hr => first | (go_simp; done) | (go_simp; rfl)); intro w31_ hw; have n_ : Aside0 (MS w w31_ [.box gb1 24 #[.slice none 0 0]]) := ⟨by rw [hw]; exact HM.out.setBox 0 rfl _ _ rfl⟩; clear HM hw; have HM := n_; clear n_))
    refine bodyPost_ret (results_ct rfl _ _ gb1 24 #[.slice none 0 0] (0, 0) _ rfl (HM.out.box 0 rfl) Try.underlying24 rfl (by kernel_rfl)) rfl ?_
    exact ⟨_, by first | rfl | (simp; done) | (simp [*]; done), Kd.R_nil _ _ _ _ _, HM.out.below⟩

/-! ### slices_Equal_int_int: function 62 -/
def slices_Equal_int_int.l0 : Nat → (List Int) → (List Int) → (Int) → (Int) → Option (Bool)
  | 0, _, _, _, _ => none
  | k + 1, x0, x1, x12, x13 => if x13 < x12 then (if 0 ≤ x13 then (if x13 < (x0.length : Int) then (if x13 < (x1.length : Int) then (if (rd x0 x13) = (rd x1 x13) then (slices_Equal_int_int.l0 k x0 x1 x12 (wrap64 (x13 + 1))) else (some false)) else (none)) else (none)) else (none)) else (some true)
def slices_Equal_int_int.f (k : Nat) (l0 : List Int) (l1 : List Int) : Option (Bool) := if (l0.length : Int) = (l1.length : Int) then (slices_Equal_int_int.l0 k l0 l1 (l0.length : Int) 0) else (some false)
set_option maxHeartbeats 8000000 in
set_option maxRecDepth 100000 in
theorem slices_Equal_int_int.calls (k : Nat) (A0 : Option Addr) (c0 : Nat) (l0 : List Int) (A1 : Option Addr) (c1 : Nat) (l1 : List Int) (r : Bool) (w : World) (hr0 : Kd.C (Kd.int .i64) w A0 l0.length l0) (hc0 : l0.length ≤ c0) (hr1 : Kd.C (Kd.int .i64) w A1 l1.length l1) (hc1 : l1.length ≤ c1) (h : slices_Equal_int_int.f k l0 l1 = some r) :
    Calls Try.prog 62 #[.slice A0 l0.length c0, .slice A1 l1.length c1] w fun e w' => e = .returned (.bool r) ∧ Drawn0 w w' := by
  have HR0 := Aside0.mk hr0
  have HC0 := Aside0.mk hc0
  clear hr0 hc0
  have HR1 := Aside0.mk hr1
  have HC1 := Aside0.mk hc1
  clear hr1 hc1
  have hu22 := Try.underlying22
  have HM := Aside0.mk (MS.start w)
  have HD := Aside0.mk (Drawn0.refl w)
  have H : (if (l0.length : Int) = (l1.length : Int) then (slices_Equal_int_int.l0 k l0 l1 (l0.length : Int) 0) else (some false)) = some r := h
  clear h
  by_cases c1_ : (l0.length : Int) = (l1.length : Int)
  · rw [if_pos c1_] at H
    have c1_b0 : ((l0.length : Int) == (l1.length : Int)) = true := beq_iff_eq.mpr c1_
    have c1_b1 : ((l0.length : Int) != (l1.length : Int)) = false := bne_eq_false_iff_eq.mpr c1_
    have c1_b2 : (l0.length == l1.length) = true := by first | simpa using c1_ | (simp at c1_ ⊢; omega)
    clear c1_
    have H' := Aside0.mk H
    clear H
    go_enter Try.func62, Try.ntmps62
    go_wp2
    go_loopg [13] k (fun kq v13 w' => ∃ (x13_2 : Int), v13 = .int .i64 x13_2 ∧ Aside0 (slices_Equal_int_int.l0 kq l0 l1 (l0.length : Int) x13_2 = some r) ∧ Aside0 (kq ≤ k) ∧ Aside0 (Drawn0 w w') ∧ Aside0 (MS w w' []))
    case atStart => exact ⟨(0), (by first | rfl | (simp; done) | (simp [*]; done)), H', ⟨Nat.le_refl _⟩, HD, HM⟩
    case round =>
      clear H'
      clear HM HD
      obtain ⟨x13_2, rfl, HA, HK3_, HD, HM⟩ := hrel
      cases gk with
      | zero => exact absurd HA.out (by simp [slices_Equal_int_int.l0])
      | succ k4_ =>
        have H := HA.out
        clear HA
        simp only [slices_Equal_int_int.l0] at H
        by_cases c5_ : x13_2 < (l0.length : Int)
        · rw [if_pos c5_] at H
          have c5_b0 : decide (x13_2 < (l0.length : Int)) = true := decide_eq_true c5_
          clear c5_
          by_cases c6_ : 0 ≤ x13_2
          · rw [if_pos c6_] at H
            have c6_b0 : decide (0 ≤ x13_2) = true := decide_eq_true c6_
            clear c6_
            by_cases c7_ : x13_2 < (l0.length : Int)
            · rw [if_pos c7_] at H
              have c7_b0 : decide (x13_2 < (l0.length : Int)) = true := decide_eq_true c7_
              clear c7_
              by_cases c8_ : x13_2 < (l1.length : Int)
              · rw [if_pos c8_] at H
                have c8_b0 : decide (x13_2 < (l1.length : Int)) = true := decide_eq_true c8_
                clear c8_
                by_cases c9_ : (rd l0 x13_2) = (rd l1 x13_2)
                · rw [if_pos c9_] at H
                  have c9_b0 : ((rd l0 x13_2) == (rd l1 x13_2)) = true := beq_iff_eq.mpr c9_
                  have c9_b1 : ((rd l0 x13_2) != (rd l1 x13_2)) = false := bne_eq_false_iff_eq.mpr c9_
                  clear c9_
                  have H' := Aside0.mk H
                  clear H
                  go_wp2
                  have p193 : 0 ≤ (x13_2 : Int) := of_decide_eq_true (by first | (with_reducible assumption) | assumption)
                  have q193 : (x13_2 : Int) < (l0.length : Int) := of_decide_eq_true (by first | (with_reducible assumption) | assumption)
                  obtain ⟨ad193, e193, hx193⟩ := Kd.at_int HR0.out x13_2 p193 q193
                  cases e193
                  replace hx193 := (HM.out.below.cell (World.block_lt_of_cell? w _ hx193)).trans hx193
                  replace p193 := eq_true p193
                  replace q193 := eq_true q193
                  have p194 : 0 ≤ (x13_2 : Int) := of_decide_eq_true (by first | (with_reducible assumption) | assumption)
                  have q194 : (x13_2 : Int) < (l1.length : Int) := of_decide_eq_true (by first | (with_reducible assumption) | assumption)
                  obtain ⟨ad194, e194, hx194⟩ := Kd.at_int HR1.out x13_2 p194 q194
                  cases e194
                  replace hx194 := (HM.out.below.cell (World.block_lt_of_cell? w _ hx194)).trans hx194
                  replace p194 := eq_true p194
                  replace q194 := eq_true q194
                  go_quiet (fail)
                  generalize hw : World.drewN _ _ = w10_
                  have n_ := Aside0.mk (HM.out.step (show Below _ _ w10_ from hw ▸ pw_below_drewN (Below.refl _ _) _))
                  have nd_ := Aside0.mk (HD.out.trans (show Drawn0 _ w10_ from ⟨⟨_, hw.symm⟩⟩))
                  clear HD
                  have HD := nd_
                  clear nd_
                  clear HM hw
                  have HM := n_
                  clear n_
                  go_wp2
                  go_roundg k4_
                  case measure => have hHK3__ := HK3_.out; omega
                  case rel => exact ⟨(wrap64 (x13_2 + 1)), (by first | rfl | (simp; done) | (simp [*]; done)), H', ⟨by have hHK3__ := HK3_.out; omega⟩, HD, HM⟩
                · rw [if_neg c9_] at H
                  have c9_b0 : ((rd l0 x13_2) == (rd l1 x13_2)) = false := beq_eq_false_iff_ne.mpr c9_
                  have c9_b1 : ((rd l0 x13_2) != (rd l1 x13_2)) = true := bne_iff_ne.mpr c9_
                  clear c9_
                  obtain rfl := Option.some.inj H
                  go_wp2
                  have p193 : 0 ≤ (x13_2 : Int) := of_decide_eq_true (by first | (with_reducible assumption) | assumption)
                  have q193 : (x13_2 : Int) < (l0.length : Int) := of_decide_eq_true (by first | (with_reducible assumption) | assumption)
                  obtain ⟨ad193, e193, hx193⟩ := Kd.at_int HR0.out x13_2 p193 q193
                  cases e193
                  replace hx193 := (HM.out.below.cell (World.block_lt_of_cell? w _ hx193)).trans hx193
                  replace p193 := eq_true p193
                  replace q193 := eq_true q193
                  have p194 : 0 ≤ (x13_2 : Int) := of_decide_eq_true (by first | (with_reducible assumption) | assumption)
                  have q194 : (x13_2 : Int) < (l1.length : Int) := of_decide_eq_true (by first | (with_reducible assumption) | assumption)
                  obtain ⟨ad194, e194, hx194⟩ := Kd.at_int HR1.out x13_2 p194 q194
                  cases e194
                  replace hx194 := (HM.out.below.cell (World.block_lt_of_cell? w _ hx194)).trans hx194
                  replace p194 := eq_true p194
                  replace q194 := eq_true q194
                  go_quiet (fail)
                  generalize hw : World.drewN _ _ = w11_
                  have n_ := Aside0.mk (HM.out.step (show Below _ _ w11_ from hw ▸ pw_below_drewN (Below.refl _ _) _))
                  have nd_ := Aside0.mk (HD.out.trans (show Drawn0 _ w11_ from ⟨⟨_, hw.symm⟩⟩))
                  clear HD
                  have HD := nd_
                  clear nd_
                  clear HM hw
                  have HM := n_
                  clear n_
                  go_wp2
                  go_ret
                  exact ⟨by first | rfl | (simp; done) | (simp [*]; done), HD.out⟩
              · rw [if_neg c8_] at H
                have c8_b0 : decide (x13_2 < (l1.length : Int)) = false := decide_eq_false c8_
                clear c8_
                exact absurd H (by simp)
            · rw [if_neg c7_] at H
              have c7_b0 : decide (x13_2 < (l0.length : Int)) = false := decide_eq_false c7_
              clear c7_
              exact absurd H (by simp)
          · rw [if_neg c6_] at H
            have c6_b0 : decide (0 ≤ x13_2) = false := decide_eq_false c6_
            clear c6_
            exact absurd H (by simp)
        · rw [if_neg c5_] at H
          have c5_b0 : decide (x13_2 < (l0.length : Int)) = false := decide_eq_false c5_
          clear c5_
          obtain rfl := Option.some.inj H
          go_wp2
          go_ret
          exact ⟨by first | rfl | (simp; done) | (simp [*]; done), HD.out⟩
  · rw [if_neg c1_] at H
    have c1_b0 : ((l0.length : Int) == (l1.length : Int)) = false := beq_eq_false_iff_ne.mpr c1_
    have c1_b1 : ((l0.length : Int) != (l1.length : Int)) = true := bne_iff_ne.mpr c1_
    have c1_b2 : (l0.length == l1.length) = false := by first | simpa using c1_ | (simp at c1_ ⊢; omega)
    clear c1_
    obtain rfl := Option.some.inj H
    go_enter Try.func62, Try.ntmps62
    go_wp2
    go_ret
    exact ⟨by first | rfl | (simp; done) | (simp [*]; done), HD.out⟩

/-! ### impl_IsSelfDual: function 32 -/
def impl_IsSelfDual.f (k : Nat) (l0_0 : List Int) (a1 : Int) : Option (Bool × Bool) := (impl_DualFamily.f k l0_0 a1).bind fun bt195 => (if bt195.2 = true then ((slices_Equal_int_int.f k l0_0 bt195.1).bind fun t197 => (some (t197, bt195.2))) else (some (false, bt195.2)))
set_option maxHeartbeats 8000000 in
set_option maxRecDepth 100000 in
theorem impl_IsSelfDual.calls (k : Nat) (A0_0 : Option Addr) (c0_0 : Nat) (l0_0 : List Int) (a1 : Int) (r1 : Bool) (r2 : Bool) (w : World) (hr0_0 : Kd.C (Kd.int .i64) w A0_0 l0_0.length l0_0) (hc0_0 : l0_0.length ≤ c0_0) (h : impl_IsSelfDual.f k l0_0 a1 = some (r1, r2)) :
    Calls Try.prog 32 #[.agg #[.slice A0_0 l0_0.length c0_0], .int .i64 a1] w fun e w' => e = .returned (.tuple #[.bool r1, .bool r2]) ∧ Below w.heap.size w w' := by
  have HR0_0 := Aside0.mk hr0_0
  have HC0_0 := Aside0.mk hc0_0
  clear hr0_0 hc0_0
  have hu22 := Try.underlying22
  have hu24 := Try.underlying24
  have HM := Aside0.mk (MS.start w)
  have H : ((impl_DualFamily.f k l0_0 a1).bind fun bt195 => (if bt195.2 = true then ((slices_Equal_int_int.f k l0_0 bt195.1).bind fun t197 => (some (t197, bt195.2))) else (some (false, bt195.2)))) = some (r1, r2) := h
  clear h
  replace H := Option.bind_eq_some_iff.mp H
  obtain ⟨⟨t195, t196⟩, A1_0, H⟩ := H
  replace H : (if t196 = true then ((slices_Equal_int_int.f k l0_0 t195).bind fun t197 => (some (t197, t196))) else (some (false, t196))) = some (r1, r2) := H
  have A1_ := Aside0.mk A1_0
  clear A1_0
  by_cases c2_ : t196 = true
  · subst c2_
    have H1 : ((slices_Equal_int_int.f k l0_0 t195).bind fun t197 => (some (t197, true))) = some (r1, r2) := by rw [if_pos rfl] at H; exact H
    clear H
    have H := H1
    clear H1
    replace H := Option.bind_eq_some_iff.mp H
    obtain ⟨t197, A3_0, H⟩ := H
    replace H : (some (t197, true)) = some (r1, r2) := H
    have A3_ := Aside0.mk A3_0
    clear A3_0
    simp only [Option.some.injEq, Prod.mk.injEq] at H
    obtain ⟨rfl, rfl⟩ := H
    go_enter Try.func32, Try.ntmps32
    go_wp2_with (first | ((with_reducible refine gate_dst (N := 2) rfl ?_); refine box_event ?hg (N := 2) ?hd (cs := #[.slice A0_0 l0_0.length c0_0]) (t := 24) ?hr ?_; (case hd => rfl); (case hg => rfl); (case hr => first | (go_simp; done) | (go_simp; rfl)); intro gb1 hg w4_ hbox hb; have n_ := Aside0.mk (HM.out.addBox hb hbox hg); clear HM; have HM := n_; clear n_; clear hb hbox hg; have hcz5_0 : w4_.cell? ⟨gb1, 0, none⟩ = some (.slice A0_0 l0_0.length c0_0) := (blk_cell (HM.out.box 0 rfl) 0).trans rfl; have hfz5_0 := blk_frozen (HM.out.box 0 rfl) 0) | ((with_reducible refine gate_callee (f := 34) rfl ?_); (with_reducible refine gate_dst (N := 11) rfl ?_); refine goesL_ (some 11) rfl rfl Try.func34 (by kernel_rfl) rfl #[.agg #[.slice A0_0 l0_0.length c0_0], .int .i64 a1] rfl (by (try simp only [List.map_toArray, List.map_cons, List.map_nil]); first | done | rfl | (simp only [List.length_drop, List.length_take]; rfl)) ?_; (with_reducible refine (impl_DualFamily.calls k _ _ l0_0 a1 t195 true _ ?sd0 ?sd1 A1_.out).mono ?_); (case sd0 => exact (Kd.C_below HR0_0.out HM.out.below)); (case sd1 => exact HC0_0.out); rintro e_ w6_ ⟨vv0_, rfl, ho0_, hb⟩; refine ⟨_, rfl, ?_⟩; obtain ⟨Ao2_0, co2_0, ev_⟩ := Kd.R_slice ho0_; subst ev_; have n_ := Aside0.mk (HM.out.addR hb ho0_); clear HM; have HM := n_; clear n_; clear hb ho0_) | ((with_reducible refine gate_dst (N := 6) rfl ?_); refine box_event ?hg (N := 6) ?hd (cs := #[.slice none 0 0]) (t := 24) ?hr ?_; (case hd => rfl); (case hg => rfl); (case hr => first | (go_simp; done) | (go_simp; rfl)); intro gb3 hg w7_ hbox hb; have n_ := Aside0.mk (HM.out.addBox hb hbox hg); clear HM; have HM := n_; clear n_; clear hb hbox hg; have hcz9_0 : w7_.cell? ⟨gb3, 0, none⟩ = some (.slice none 0 0) := (blk_cell (HM.out.box 0 rfl) 0).trans rfl; have hfz9_0 := blk_frozen (HM.out.box 0 rfl) 0) | ((with_reducible refine gate_store (t := 24) (p := 6) rfl ?_); refine store_event (t := 24) (p := 6) (v := ?vow8_) (w1 := (w7_.setCell ⟨gb3, 0, none⟩ (.slice Ao2_0 t195.length co2_0))) ?hg ?ho ?hn ?hr ?_; (case ho => rfl); (case hg => rfl); (case hn => rfl); (case hr => first | (go_simp; done) | (go_simp; rfl)); intro w8_ hw; have n_ : Aside0 (MS w w8_ [.box gb3 24 #[.slice Ao2_0 t195.length co2_0], .row 3 (.slice Ao2_0 t195.length co2_0) (encs (Value.int .i64) t195), .box gb1 24 #[.slice A0_0 l0_0.length c0_0]]) := ⟨by rw [hw]; exact HM.out.setBox 0 rfl _ _ rfl⟩; clear HM hw; have HM := n_; clear n_; have hcz10_0 : w8_.cell? ⟨gb1, 0, none⟩ = some (.slice A0_0 l0_0.length c0_0) := (blk_cell (HM.out.box 2 rfl) 0).trans rfl; have hfz10_0 := blk_frozen (HM.out.box 2 rfl) 0; have hcz11_0 : w8_.cell? ⟨gb3, 0, none⟩ = some (.slice Ao2_0 t195.length co2_0) := (blk_cell (HM.out.box 0 rfl) 0).trans rfl; have hfz11_0 := blk_frozen (HM.out.box 0 rfl) 0) | (go_at_call 62; (refine calls_of_args (args' := #[.slice A0_0 l0_0.length c0_0, .slice Ao2_0 t195.length co2_0]) (by first | done | rfl) ?_); (with_reducible refine (slices_Equal_int_int.calls k _ _ l0_0 _ _ t195 t197 _ ?sd0 ?sd1 ?sd2 ?sd3 A3_.out).mono ?_); (case sd0 => exact (Kd.C_below HR0_0.out HM.out.below)); (case sd1 => exact HC0_0.out); (case sd2 => exact (Kd.R_reads' (HM.out.R (h1 := fun _ => rfl) 1 rfl)).2.2); (case sd3 => exact (Kd.R_reads' (HM.out.R (h1 := fun _ => rfl) 1 rfl)).2.1); rintro e_ w12_ ⟨rfl, hd_⟩; have hb := hd_.below; clear hd_; have n_ := Aside0.mk (HM.out.step hb); clear HM; have HM := n_; clear n_; clear hb))
    go_ret2
    exact ⟨by first | rfl | (simp; done) | (simp [*]; done), HM.out.below⟩
  · replace c2_ := Bool.eq_false_iff.mpr c2_
    subst c2_
    have H1 : (some (false, false)) = some (r1, r2) := by rw [if_neg (show ¬ (false = true) by decide)] at H; exact H
    clear H
    have H := H1
    clear H1
    simp only [Option.some.injEq, Prod.mk.injEq] at H
    obtain ⟨rfl, rfl⟩ := H
    go_enter Try.func32, Try.ntmps32
    go_wp2_with (first | ((with_reducible refine gate_dst (N := 2) rfl ?_); refine box_event ?hg (N := 2) ?hd (cs := #[.slice A0_0 l0_0.length c0_0]) (t := 24) ?hr ?_; (case hd => rfl); (case hg => rfl); (case hr => first | (go_simp; done) | (go_simp; rfl)); intro gb1 hg w13_ hbox hb; have n_ := Aside0.mk (HM.out.addBox hb hbox hg); clear HM; have HM := n_; clear n_; clear hb hbox hg; have hcz14_0 : w13_.cell? ⟨gb1, 0, none⟩ = some (.slice A0_0 l0_0.length c0_0) := (blk_cell (HM.out.box 0 rfl) 0).trans rfl; have hfz14_0 := blk_frozen (HM.out.box 0 rfl) 0) | ((with_reducible refine gate_callee (f := 34) rfl ?_); (with_reducible refine gate_dst (N := 11) rfl ?_); refine goesL_ (some 11) rfl rfl Try.func34 (by kernel_rfl) rfl #[.agg #[.slice A0_0 l0_0.length c0_0], .int .i64 a1] rfl (by (try simp only [List.map_toArray, List.map_cons, List.map_nil]); first | done | rfl | (simp only [List.length_drop, List.length_take]; rfl)) ?_; (with_reducible refine (impl_DualFamily.calls k _ _ l0_0 a1 t195 false _ ?sd0 ?sd1 A1_.out).mono ?_); (case sd0 => exact (Kd.C_below HR0_0.out HM.out.below)); (case sd1 => exact HC0_0.out); rintro e_ w15_ ⟨vv0_, rfl, ho0_, hb⟩; refine ⟨_, rfl, ?_⟩; obtain ⟨Ao2_0, co2_0, ev_⟩ := Kd.R_slice ho0_; subst ev_; have n_ := Aside0.mk (HM.out.addR hb ho0_); clear HM; have HM := n_; clear n_; clear hb ho0_) | ((with_reducible refine gate_dst (N := 6) rfl ?_); refine box_event ?hg (N := 6) ?hd (cs := #[.slice none 0 0]) (t := 24) ?hr ?_; (case hd => rfl); (case hg => rfl); (case hr => first | (go_simp; done) | (go_simp; rfl)); intro gb3 hg w16_ hbox hb; have n_ := Aside0.mk (HM.out.addBox hb hbox hg); clear HM; have HM := n_; clear n_; clear hb hbox hg; have hcz18_0 : w16_.cell? ⟨gb3, 0, none⟩ = some (.slice none 0 0) := (blk_cell (HM.out.box 0 rfl) 0).trans rfl; have hfz18_0 := blk_frozen (HM.out.box 0 rfl) 0) | ((with_reducible refine gate_store (t := 24) (p := 6) rfl ?_); refine store_event (t := 24) (p := 6) (v := ?vow17_) (w1 := (w16_.setCell ⟨gb3, 0, none⟩ (.slice Ao2_0 t195.length co2_0))) ?hg ?ho ?hn ?hr ?_; (case ho => rfl); (case hg => rfl); (case hn => rfl); (case hr => first | (go_simp; done) | (go_simp; rfl)); intro w17_ hw; have n_ : Aside0 (MS w w17_ [.box gb3 24 #[.slice Ao2_0 t195.length co2_0], .row 3 (.slice Ao2_0 t195.length co2_0) (encs (Value.int .i64) t195), .box gb1 24 #[.slice A0_0 l0_0.length c0_0]]) := ⟨by rw [hw]; exact HM.out.setBox 0 rfl _ _ rfl⟩; clear HM hw; have HM := n_; clear n_))
    go_ret2
    exact ⟨by first | rfl | (simp; done) | (simp [*]; done), HM.out.below⟩

end Go.Proofs.Ytncdgimmalifjaa.Q
