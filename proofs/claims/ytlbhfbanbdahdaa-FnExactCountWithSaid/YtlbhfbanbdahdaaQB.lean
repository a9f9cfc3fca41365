-- Written by a program of this session's own (wip/wgen.py): what functions of the program compute, and that they do.
import Derived.Below
import Derived.Deep.Draws
import Derived.Deep.AppendLies
import Derived.Maps.AppendAt
import Derived.OwnWalk
import Derived.Laws.BytesArg
import Derived.Laws.MakeOwn
import Derived.Laws.OwnMore
import Derived.Deep.OwnRows
import Derived.Tactics
import Derived.Lib.ConvBytes
import Derived.Laws.Slices
import Derived.WalkKit
import Derived.KernelRfl
import Derived.RowKit3
import Derived.Deep.LoopGhost
import Derived.Deep.QuietTactic
import Derived.BigQuiet
import Derived.WideLaws
import Derived.Deep.DeepCutAuto
import Derived.Deep.CutBlock
import Derived.Deep.RegionHeld3
import Derived.Laws.Rows
import Derived.Lib.AppendStr
import Derived.ArgAppend
import Derived.Laws.IdiomCopy
import Derived.OrdersHeld
import Derived.Laws.BitsLemmas
import Derived.RowKit
import Derived.Lib.SliceRun
import Derived.Test.YtlbhfbanbdahdaaHM
import Derived.Test.YtlbhfbanbdahdaaRG
import Derived.Test.YtlbhfbanbdahdaaProg
import Derived.Test.YtlbhfbanbdahdaaK1
import Derived.Test.YtlbhfbanbdahdaaK2
import Derived.Test.YtlbhfbanbdahdaaQI
import Derived.Test.YtlbhfbanbdahdaaCN
import Derived.Test.YtlbhfbanbdahdaaDF
import Derived.Test.YtlbhfbanbdahdaaQA
namespace Go.Proofs.Ytlbhfbanbdahdaa.Q
open Go.RowKit Go.Proofs.YtlbhfbanbdahdaaW.PrintWords Go.Proofs.YtlbhfbanbdahdaaW.PrintLast Go.Proofs.YtlbhfbanbdahdaaW.PrintMore Go.Proofs.YtlbhfbanbdahdaaM Go.Proofs.Ytlbhfbanbdahdaa.K
attribute [local go_sem] max2_int min2_int max_two min_two max_three min_three max_four min_four
set_option linter.unusedVariables false
set_option linter.unusedSimpArgs false

/-! ### spec_l3Set: function 69 -/
def spec_l3Set.f (a0 : Int) : Option (Bool) := (spec_l1In.f a0 0 63).bind fun t139 => (some t139)
set_option maxHeartbeats 8000000 in
set_option maxRecDepth 100000 in
theorem spec_l3Set.calls (a0 : Int) (r : Bool) (w : World)  (h : spec_l3Set.f a0 = some r) :
    Calls Try.prog 69 #[.int .i64 a0] w fun e w' => e = .returned (.bool r) ∧ Drawn0 w w' := by
  have HM := Aside0.mk (MS.start w)
  have HD := Aside0.mk (Drawn0.refl w)
  have H : ((spec_l1In.f a0 0 63).bind fun t139 => (some t139)) = some r := h
  clear h
  replace H := Option.bind_eq_some_iff.mp H
  obtain ⟨t139, A1_0, H⟩ := H
  replace H : (some t139) = some r := H
  have A1_ := Aside0.mk A1_0
  clear A1_0
  obtain rfl := Option.some.inj H
  go_enter Try.func69, Try.ntmps69
  go_wp2_with (first | ((with_reducible refine gate_callee (f := 59) rfl ?_); (with_reducible refine gate_dst (N := 4) rfl ?_); refine goesL_ (some 4) rfl rfl Try.func59 (by kernel_rfl) rfl #[.int .i64 a0, .int .i64 0, .int .i64 63] rfl (by (try simp only [List.map_toArray, List.map_cons, List.map_nil]); first | done | rfl | (simp only [List.length_drop, List.length_take]; rfl)) ?_; (with_reducible refine (spec_l1In.calls a0 0 63 t139 _  A1_.out).mono ?_); rintro e_ w2_ ⟨rfl, hd_⟩; refine ⟨_, rfl, ?_⟩; have hb := hd_.below; have nd_ := Aside0.mk (HD.out.trans hd_); clear HD; have HD := nd_; clear nd_; clear hd_; have n_ := Aside0.mk (HM.out.step hb); clear HM; have HM := n_; clear n_; clear hb))
  go_ret
  exact ⟨by first | rfl | (simp; done) | (simp only [i64_w]; done) | (simp [i64_w]; done) | (simp [*]; done), HD.out⟩

/-! ### spec_l5Part: function 70 -/
def spec_l5Part.f (a0 : Int) (a1 : Int) : Option (Bool) := some ((Go.bits .and .i64 a0 a1) == a0)
set_option maxHeartbeats 8000000 in
set_option maxRecDepth 100000 in
theorem spec_l5Part.calls (a0 : Int) (a1 : Int) (r : Bool) (w : World)  (h : spec_l5Part.f a0 a1 = some r) :
    Calls Try.prog 70 #[.int .i64 a0, .int .i64 a1] w fun e w' => e = .returned (.bool r) ∧ Drawn0 w w' := by
  have HM := Aside0.mk (MS.start w)
  have HD := Aside0.mk (Drawn0.refl w)
  have H : (some ((Go.bits .and .i64 a0 a1) == a0)) = some r := h
  clear h
  obtain rfl := Option.some.inj H
  go_enter Try.func70, Try.ntmps70
  go_wp2
  go_ret
  exact ⟨by first | rfl | (simp; done) | (simp only [i64_w]; done) | (simp [i64_w]; done) | (simp [*]; done), HD.out⟩

/-! ### spec_l5Family: function 43 -/
mutual
def spec_l5Family.l0 : Nat → (Int) → (List Int) → Option (Bool)
  | 0, _, _ => none
  | k + 1, x3, m1_0 => if x3 < (m1_0.length : Int) then (if 0 ≤ x3 then ((spec_l3Set.f (rd m1_0 x3)).bind fun t141 => (if t141 = true then (if x3 > 0 then (if 0 ≤ (wrap64 (x3 - 1)) then (if (wrap64 (x3 - 1)) < (m1_0.length : Int) then (if (rd m1_0 x3) ≤ (rd m1_0 (wrap64 (x3 - 1))) then (some false) else (spec_l5Family.l1 k x3 0 m1_0)) else (none)) else (none)) else (spec_l5Family.l1 k x3 0 m1_0)) else (some false))) else (none)) else (some true)
def spec_l5Family.l1 : Nat → (Int) → (Int) → (List Int) → Option (Bool)
  | 0, _, _, _ => none
  | k + 1, x3, x4, m1_0 => if x4 < x3 then (if 0 ≤ x4 then (if x4 < (m1_0.length : Int) then (if 0 ≤ x3 then (if x3 < (m1_0.length : Int) then ((spec_l5Part.f (rd m1_0 x4) (rd m1_0 x3)).bind fun t146 => (if t146 = true then (some false) else (spec_l5Family.l1 k x3 (wrap64 (x4 + 1)) m1_0))) else (none)) else (none)) else (none)) else (none)) else (spec_l5Family.l0 k (wrap64 (x3 + 1)) m1_0)
end
def spec_l5Family.f (k : Nat) (l0_0 : List Int) : Option (Bool) := spec_l5Family.l0 k 0 l0_0
set_option maxHeartbeats 8000000 in
set_option maxRecDepth 100000 in
theorem spec_l5Family.calls (k : Nat) (A0_0 : Option Addr) (c0_0 : Nat) (l0_0 : List Int) (r : Bool) (w : World) (hr0_0 : Kd.C (Kd.int .i64) w A0_0 l0_0.length l0_0) (hc0_0 : l0_0.length ≤ c0_0) (h : spec_l5Family.f k l0_0 = some r) :
    Calls Try.prog 43 #[.agg #[.slice A0_0 l0_0.length c0_0]] w fun e w' => e = .returned (.bool r) ∧ Below w.heap.size w w' := by
  have HR0_0 := Aside0.mk hr0_0
  have HC0_0 := Aside0.mk hc0_0
  clear hr0_0 hc0_0
  have hu22 := Try.underlying22
  have hu30 := Try.underlying30
  have HM := Aside0.mk (MS.start w)
  have H : (spec_l5Family.l0 k 0 l0_0) = some r := h
  clear h
  have H' := Aside0.mk H
  clear H
  go_enter Try.func43, Try.ntmps43
  go_wp2_with (first | ((with_reducible refine gate_dst (N := 1) rfl ?_); refine box_event ?hg (N := 1) ?hd (cs := #[.slice A0_0 l0_0.length c0_0]) (t := 30) ?hr ?_; (case hd => rfl); (case hg => rfl); (case hr => first | (go_simp; done) | (go_simp; rfl)); intro gb1 hg w1_ hbox hb; have n_ := Aside0.mk (HM.out.addBox hb hbox hg); clear HM; have HM := n_; clear n_; clear hb hbox hg))
  go_loopg [3] k (fun kq v3 w' => ∃ (x3_2 : Int), v3 = .int .i64 x3_2 ∧ Aside0 (spec_l5Family.l0 kq x3_2 l0_0 = some r) ∧ Aside0 (kq ≤ k) ∧ Aside0 (MS w w' [.box gb1 30 #[.slice A0_0 l0_0.length c0_0]]))
  case atStart => exact ⟨(0), (by first | rfl | (simp; done) | (simp only [i64_w]; done) | (simp [i64_w]; done) | (simp [*]; done)), H', ⟨Nat.le_refl _⟩, HM⟩
  case round =>
    clear H'
    clear HM
    obtain ⟨x3_2, rfl, HA, HK3_, HM⟩ := hrel
    cases gk with
    | zero => exact absurd HA.out (by simp [spec_l5Family.l0])
    | succ k4_ =>
      have H := HA.out
      clear HA
      simp only [spec_l5Family.l0] at H
      by_cases c5_ : x3_2 < (l0_0.length : Int)
      · rw [if_pos c5_] at H
        have c5_b0 : decide (x3_2 < (l0_0.length : Int)) = true := decide_eq_true c5_
        clear c5_
        by_cases c6_ : 0 ≤ x3_2
        · rw [if_pos c6_] at H
          have c6_b0 : decide (0 ≤ x3_2) = true := decide_eq_true c6_
          clear c6_
          replace H := Option.bind_eq_some_iff.mp H
          obtain ⟨t141, A7_0, H⟩ := H
          replace H : (if t141 = true then (if x3_2 > 0 then (if 0 ≤ (wrap64 (x3_2 - 1)) then (if (wrap64 (x3_2 - 1)) < (l0_0.length : Int) then (if (rd l0_0 x3_2) ≤ (rd l0_0 (wrap64 (x3_2 - 1))) then (some false) else (spec_l5Family.l1 k4_ x3_2 0 l0_0)) else (none)) else (none)) else (spec_l5Family.l1 k4_ x3_2 0 l0_0)) else (some false)) = some r := H
          have A7_ := Aside0.mk A7_0
          clear A7_0
          by_cases c8_ : t141 = true
          · subst c8_
            have H1 : (if x3_2 > 0 then (if 0 ≤ (wrap64 (x3_2 - 1)) then (if (wrap64 (x3_2 - 1)) < (l0_0.length : Int) then (if (rd l0_0 x3_2) ≤ (rd l0_0 (wrap64 (x3_2 - 1))) then (some false) else (spec_l5Family.l1 k4_ x3_2 0 l0_0)) else (none)) else (none)) else (spec_l5Family.l1 k4_ x3_2 0 l0_0)) = some r := by rw [if_pos rfl] at H; exact H
            clear H
            have H := H1
            clear H1
            by_cases c9_ : x3_2 > 0
            · rw [if_pos c9_] at H
              have c9_b0 : decide (0 < x3_2) = true := decide_eq_true c9_
              clear c9_
              obtain ⟨ji10_, hji10_⟩ : ∃ j_ : Int, (wrap64 (x3_2 - 1)) = j_ := ⟨_, rfl⟩
              replace H : (if 0 ≤ ji10_ then (if ji10_ < (l0_0.length : Int) then (if (rd l0_0 x3_2) ≤ (rd l0_0 ji10_) then (some false) else (spec_l5Family.l1 k4_ x3_2 0 l0_0)) else (none)) else (none)) = some r := by first | (rw [hji10_] at H; exact H) | (simp only [hji10_] at H ⊢; exact H)
              have hji10_w : (IntKind.i64.wrap (x3_2 - 1)) = ji10_ := (i64_w _).trans hji10_
              (try rw [hji10_] at A7_)
              by_cases c11_ : 0 ≤ ji10_
              · rw [if_pos c11_] at H
                have c11_b0 : decide (0 ≤ ji10_) = true := decide_eq_true c11_
                clear c11_
                by_cases c12_ : ji10_ < (l0_0.length : Int)
                · rw [if_pos c12_] at H
                  have c12_b0 : decide (ji10_ < (l0_0.length : Int)) = true := decide_eq_true c12_
                  clear c12_
                  by_cases c13_ : (rd l0_0 x3_2) ≤ (rd l0_0 ji10_)
                  · rw [if_pos c13_] at H
                    have c13_b0 : decide ((rd l0_0 x3_2) ≤ (rd l0_0 ji10_)) = true := decide_eq_true c13_
                    clear c13_
                    obtain rfl := Option.some.inj H
                    have hcz14_0 : wr.cell? ⟨gb1, 0, none⟩ = some (.slice A0_0 l0_0.length c0_0) := (blk_cell (HM.out.box 0 rfl) 0).trans rfl
                    have hfz14_0 := blk_frozen (HM.out.box 0 rfl) 0
                    go_wp2
                    have p140 : 0 ≤ (x3_2 : Int) := of_decide_eq_true (by first | (with_reducible assumption) | assumption)
                    have q140 : (x3_2 : Int) < (l0_0.length : Int) := of_decide_eq_true (by first | (with_reducible assumption) | assumption)
                    obtain ⟨ad140, e140, hx140⟩ := Kd.at_int HR0_0.out x3_2 p140 q140
                    cases e140
                    replace hx140 := (HM.out.below.cell (World.block_lt_of_cell? w _ hx140)).trans hx140
                    replace p140 := eq_true p140
                    replace q140 := eq_true q140
                    have p142 : 0 ≤ (x3_2 : Int) := of_decide_eq_true (by first | (with_reducible assumption) | assumption)
                    have q142 : (x3_2 : Int) < (l0_0.length : Int) := of_decide_eq_true (by first | (with_reducible assumption) | assumption)
                    obtain ⟨ad142, e142, hx142⟩ := Kd.at_int HR0_0.out x3_2 p142 q142
                    obtain rfl : ad140 = ad142 := (by injection e142)
                    replace hx142 := (HM.out.below.cell (World.block_lt_of_cell? w _ hx142)).trans hx142
                    replace p142 := eq_true p142
                    replace q142 := eq_true q142
                    have p143 : 0 ≤ (ji10_ : Int) := of_decide_eq_true (by first | (with_reducible assumption) | assumption)
                    have q143 : (ji10_ : Int) < (l0_0.length : Int) := of_decide_eq_true (by first | (with_reducible assumption) | assumption)
                    obtain ⟨ad143, e143, hx143⟩ := Kd.at_int HR0_0.out ji10_ p143 q143
                    obtain rfl : ad140 = ad143 := (by injection e143)
                    replace hx143 := (HM.out.below.cell (World.block_lt_of_cell? w _ hx143)).trans hx143
                    replace p143 := eq_true p143
                    replace q143 := eq_true q143
                    go_quiet ((go_at_call 69; refine calls_quiet (v := .bool true) ?_; exact (spec_l3Set.calls (rd l0_0 x3_2) true _  A7_.out)))
                    generalize hw : World.drewN _ _ = w16_
                    have n_ := Aside0.mk (HM.out.step (show Below _ _ w16_ from hw ▸ pw_below_drewN (Below.refl _ _) _))
                    clear HM hw
                    have HM := n_
                    clear n_
                    go_wp2
                    go_ret
                    exact ⟨by first | rfl | (simp; done) | (simp only [i64_w]; done) | (simp [i64_w]; done) | (simp only [← hji10_] <;> (first | rfl | (simp only [i64_w]; done) | simp)) | (simp [*]; done), HM.out.below⟩
                  · rw [if_neg c13_] at H
                    have c13_b0 : decide ((rd l0_0 x3_2) ≤ (rd l0_0 ji10_)) = false := decide_eq_false c13_
                    clear c13_
                    have H' := Aside0.mk H
                    clear H
                    have hcz17_0 : wr.cell? ⟨gb1, 0, none⟩ = some (.slice A0_0 l0_0.length c0_0) := (blk_cell (HM.out.box 0 rfl) 0).trans rfl
                    have hfz17_0 := blk_frozen (HM.out.box 0 rfl) 0
                    go_wp2
                    have p140 : 0 ≤ (x3_2 : Int) := of_decide_eq_true (by first | (with_reducible assumption) | assumption)
                    have q140 : (x3_2 : Int) < (l0_0.length : Int) := of_decide_eq_true (by first | (with_reducible assumption) | assumption)
                    obtain ⟨ad140, e140, hx140⟩ := Kd.at_int HR0_0.out x3_2 p140 q140
                    cases e140
                    replace hx140 := (HM.out.below.cell (World.block_lt_of_cell? w _ hx140)).trans hx140
                    replace p140 := eq_true p140
                    replace q140 := eq_true q140
                    have p142 : 0 ≤ (x3_2 : Int) := of_decide_eq_true (by first | (with_reducible assumption) | assumption)
                    have q142 : (x3_2 : Int) < (l0_0.length : Int) := of_decide_eq_true (by first | (with_reducible assumption) | assumption)
                    obtain ⟨ad142, e142, hx142⟩ := Kd.at_int HR0_0.out x3_2 p142 q142
                    obtain rfl : ad140 = ad142 := (by injection e142)
                    replace hx142 := (HM.out.below.cell (World.block_lt_of_cell? w _ hx142)).trans hx142
                    replace p142 := eq_true p142
                    replace q142 := eq_true q142
                    have p143 : 0 ≤ (ji10_ : Int) := of_decide_eq_true (by first | (with_reducible assumption) | assumption)
                    have q143 : (ji10_ : Int) < (l0_0.length : Int) := of_decide_eq_true (by first | (with_reducible assumption) | assumption)
                    obtain ⟨ad143, e143, hx143⟩ := Kd.at_int HR0_0.out ji10_ p143 q143
                    obtain rfl : ad140 = ad143 := (by injection e143)
                    replace hx143 := (HM.out.below.cell (World.block_lt_of_cell? w _ hx143)).trans hx143
                    replace p143 := eq_true p143
                    replace q143 := eq_true q143
                    go_quiet ((go_at_call 69; refine calls_quiet (v := .bool true) ?_; exact (spec_l3Set.calls (rd l0_0 x3_2) true _  A7_.out)))
                    generalize hw : World.drewN _ _ = w19_
                    have n_ := Aside0.mk (HM.out.step (show Below _ _ w19_ from hw ▸ pw_below_drewN (Below.refl _ _) _))
                    clear HM hw
                    have HM := n_
                    clear n_
                    go_wp2
                    go_loopg [4] k4_ (fun kq v4 w' => ∃ (x4_20 : Int), v4 = .int .i64 x4_20 ∧ Aside0 (spec_l5Family.l1 kq x3_2 x4_20 l0_0 = some r) ∧ Aside0 (kq ≤ k4_) ∧ Aside0 (MS w w' [.box gb1 30 #[.slice (some ad140) l0_0.length c0_0]]))
                    case atStart => exact ⟨(0), (by first | rfl | (simp; done) | (simp only [i64_w]; done) | (simp [i64_w]; done) | (simp only [← hji10_] <;> (first | rfl | (simp only [i64_w]; done) | simp)) | (simp [*]; done)), H', ⟨Nat.le_refl _⟩, HM⟩
                    case round =>
                      clear H'
                      clear HM
                      obtain ⟨x4_20, rfl, HA, HK21_, HM⟩ := hrel
                      cases gk with
                      | zero => exact absurd HA.out (by simp [spec_l5Family.l1])
                      | succ k22_ =>
                        have H := HA.out
                        clear HA
                        simp only [spec_l5Family.l1] at H
                        by_cases c23_ : x4_20 < x3_2
                        · rw [if_pos c23_] at H
                          have c23_b0 : decide (x4_20 < x3_2) = true := decide_eq_true c23_
                          clear c23_
                          by_cases c24_ : 0 ≤ x4_20
                          · rw [if_pos c24_] at H
                            have c24_b0 : decide (0 ≤ x4_20) = true := decide_eq_true c24_
                            clear c24_
                            by_cases c25_ : x4_20 < (l0_0.length : Int)
                            · rw [if_pos c25_] at H
                              have c25_b0 : decide (x4_20 < (l0_0.length : Int)) = true := decide_eq_true c25_
                              clear c25_
                              by_cases c26_ : 0 ≤ x3_2
                              · rw [if_pos c26_] at H
                                have c26_b0 : decide (0 ≤ x3_2) = true := decide_eq_true c26_
                                clear c26_
                                by_cases c27_ : x3_2 < (l0_0.length : Int)
                                · rw [if_pos c27_] at H
                                  have c27_b0 : decide (x3_2 < (l0_0.length : Int)) = true := decide_eq_true c27_
                                  clear c27_
                                  replace H := Option.bind_eq_some_iff.mp H
                                  obtain ⟨t146, A28_0, H⟩ := H
                                  replace H : (if t146 = true then (some false) else (spec_l5Family.l1 k22_ x3_2 (wrap64 (x4_20 + 1)) l0_0)) = some r := H
                                  have A28_ := Aside0.mk A28_0
                                  clear A28_0
                                  by_cases c29_ : t146 = true
                                  · subst c29_
                                    have H1 : (some false) = some r := by rw [if_pos rfl] at H; exact H
                                    clear H
                                    have H := H1
                                    clear H1
                                    obtain rfl := Option.some.inj H
                                    go_wp2
                                    have hcz30_0 : wr.cell? ⟨gb1, 0, none⟩ = some (.slice (some ad140) l0_0.length c0_0) := (blk_cell (HM.out.box 0 rfl) 0).trans rfl
                                    have hfz30_0 := blk_frozen (HM.out.box 0 rfl) 0
                                    have p144 : 0 ≤ (x4_20 : Int) := of_decide_eq_true (by first | (with_reducible assumption) | assumption)
                                    have q144 : (x4_20 : Int) < (l0_0.length : Int) := of_decide_eq_true (by first | (with_reducible assumption) | assumption)
                                    obtain ⟨ad144, e144, hx144⟩ := Kd.at_int HR0_0.out x4_20 p144 q144
                                    obtain rfl : ad140 = ad144 := (by injection e144)
                                    replace hx144 := (HM.out.below.cell (World.block_lt_of_cell? w _ hx144)).trans hx144
                                    replace p144 := eq_true p144
                                    replace q144 := eq_true q144
                                    have p145 : 0 ≤ (x3_2 : Int) := of_decide_eq_true (by first | (with_reducible assumption) | assumption)
                                    have q145 : (x3_2 : Int) < (l0_0.length : Int) := of_decide_eq_true (by first | (with_reducible assumption) | assumption)
                                    obtain ⟨ad145, e145, hx145⟩ := Kd.at_int HR0_0.out x3_2 p145 q145
                                    obtain rfl : ad140 = ad145 := (by injection e145)
                                    replace hx145 := (HM.out.below.cell (World.block_lt_of_cell? w _ hx145)).trans hx145
                                    replace p145 := eq_true p145
                                    replace q145 := eq_true q145
                                    go_quiet ((go_at_call 70; refine calls_quiet (v := .bool true) ?_; exact (spec_l5Part.calls (rd l0_0 x4_20) (rd l0_0 x3_2) true _  A28_.out)))
                                    generalize hw : World.drewN _ _ = w32_
                                    have n_ := Aside0.mk (HM.out.step (show Below _ _ w32_ from hw ▸ pw_below_drewN (Below.refl _ _) _))
                                    clear HM hw
                                    have HM := n_
                                    clear n_
                                    go_wp2
                                    go_ret
                                    exact ⟨by first | rfl | (simp; done) | (simp only [i64_w]; done) | (simp [i64_w]; done) | (simp [*]; done), HM.out.below⟩
                                  · replace c29_ := Bool.eq_false_iff.mpr c29_
                                    subst c29_
                                    have H1 : (spec_l5Family.l1 k22_ x3_2 (wrap64 (x4_20 + 1)) l0_0) = some r := by rw [if_neg (show ¬ (false = true) by decide)] at H; exact H
                                    clear H
                                    have H := H1
                                    clear H1
                                    have H' := Aside0.mk H
                                    clear H
                                    go_wp2
                                    have hcz33_0 : wr.cell? ⟨gb1, 0, none⟩ = some (.slice (some ad140) l0_0.length c0_0) := (blk_cell (HM.out.box 0 rfl) 0).trans rfl
                                    have hfz33_0 := blk_frozen (HM.out.box 0 rfl) 0
                                    have p144 : 0 ≤ (x4_20 : Int) := of_decide_eq_true (by first | (with_reducible assumption) | assumption)
                                    have q144 : (x4_20 : Int) < (l0_0.length : Int) := of_decide_eq_true (by first | (with_reducible assumption) | assumption)
                                    obtain ⟨ad144, e144, hx144⟩ := Kd.at_int HR0_0.out x4_20 p144 q144
                                    obtain rfl : ad140 = ad144 := (by injection e144)
                                    replace hx144 := (HM.out.below.cell (World.block_lt_of_cell? w _ hx144)).trans hx144
                                    replace p144 := eq_true p144
                                    replace q144 := eq_true q144
                                    have p145 : 0 ≤ (x3_2 : Int) := of_decide_eq_true (by first | (with_reducible assumption) | assumption)
                                    have q145 : (x3_2 : Int) < (l0_0.length : Int) := of_decide_eq_true (by first | (with_reducible assumption) | assumption)
                                    obtain ⟨ad145, e145, hx145⟩ := Kd.at_int HR0_0.out x3_2 p145 q145
                                    obtain rfl : ad140 = ad145 := (by injection e145)
                                    replace hx145 := (HM.out.below.cell (World.block_lt_of_cell? w _ hx145)).trans hx145
                                    replace p145 := eq_true p145
                                    replace q145 := eq_true q145
                                    go_quiet ((go_at_call 70; refine calls_quiet (v := .bool false) ?_; exact (spec_l5Part.calls (rd l0_0 x4_20) (rd l0_0 x3_2) false _  A28_.out)))
                                    generalize hw : World.drewN _ _ = w35_
                                    have n_ := Aside0.mk (HM.out.step (show Below _ _ w35_ from hw ▸ pw_below_drewN (Below.refl _ _) _))
                                    clear HM hw
                                    have HM := n_
                                    clear n_
                                    go_wp2
                                    go_roundg k22_
                                    case measure => have hHK3__ := HK3_.out; have hHK21__ := HK21_.out; omega
                                    case rel => exact ⟨(wrap64 (x4_20 + 1)), (by first | rfl | (simp; done) | (simp only [i64_w]; done) | (simp [i64_w]; done) | (simp [*]; done)), H', ⟨by have hHK3__ := HK3_.out; have hHK21__ := HK21_.out; omega⟩, HM⟩
                                · rw [if_neg c27_] at H
                                  have c27_b0 : decide (x3_2 < (l0_0.length : Int)) = false := decide_eq_false c27_
                                  clear c27_
                                  exact absurd H (by simp)
                              · rw [if_neg c26_] at H
                                have c26_b0 : decide (0 ≤ x3_2) = false := decide_eq_false c26_
                                clear c26_
                                exact absurd H (by simp)
                            · rw [if_neg c25_] at H
                              have c25_b0 : decide (x4_20 < (l0_0.length : Int)) = false := decide_eq_false c25_
                              clear c25_
                              exact absurd H (by simp)
                          · rw [if_neg c24_] at H
                            have c24_b0 : decide (0 ≤ x4_20) = false := decide_eq_false c24_
                            clear c24_
                            exact absurd H (by simp)
                        · rw [if_neg c23_] at H
                          have c23_b0 : decide (x4_20 < x3_2) = false := decide_eq_false c23_
                          clear c23_
                          have H' := Aside0.mk H
                          clear H
                          go_wp2
                          go_roundg k22_
                          case measure => have hHK3__ := HK3_.out; have hHK21__ := HK21_.out; omega
                          case rel => exact ⟨(wrap64 (x3_2 + 1)), (by first | rfl | (simp; done) | (simp only [i64_w]; done) | (simp [i64_w]; done) | (simp [*]; done)), H', ⟨by have hHK3__ := HK3_.out; have hHK21__ := HK21_.out; omega⟩, HM⟩
                · rw [if_neg c12_] at H
                  have c12_b0 : decide (ji10_ < (l0_0.length : Int)) = false := decide_eq_false c12_
                  clear c12_
                  exact absurd H (by simp)
              · rw [if_neg c11_] at H
                have c11_b0 : decide (0 ≤ ji10_) = false := decide_eq_false c11_
                clear c11_
                exact absurd H (by simp)
            · rw [if_neg c9_] at H
              have c9_b0 : decide (0 < x3_2) = false := decide_eq_false c9_
              clear c9_
              have H' := Aside0.mk H
              clear H
              have hcz36_0 : wr.cell? ⟨gb1, 0, none⟩ = some (.slice A0_0 l0_0.length c0_0) := (blk_cell (HM.out.box 0 rfl) 0).trans rfl
              have hfz36_0 := blk_frozen (HM.out.box 0 rfl) 0
              go_wp2
              have p140 : 0 ≤ (x3_2 : Int) := of_decide_eq_true (by first | (with_reducible assumption) | assumption)
              have q140 : (x3_2 : Int) < (l0_0.length : Int) := of_decide_eq_true (by first | (with_reducible assumption) | assumption)
              obtain ⟨ad140, e140, hx140⟩ := Kd.at_int HR0_0.out x3_2 p140 q140
              cases e140
              replace hx140 := (HM.out.below.cell (World.block_lt_of_cell? w _ hx140)).trans hx140
              replace p140 := eq_true p140
              replace q140 := eq_true q140
              go_quiet ((go_at_call 69; refine calls_quiet (v := .bool true) ?_; exact (spec_l3Set.calls (rd l0_0 x3_2) true _  A7_.out)))
              generalize hw : World.drewN _ _ = w38_
              have n_ := Aside0.mk (HM.out.step (show Below _ _ w38_ from hw ▸ pw_below_drewN (Below.refl _ _) _))
              clear HM hw
              have HM := n_
              clear n_
              go_wp2
              go_loopg [4] k4_ (fun kq v4 w' => ∃ (x4_39 : Int), v4 = .int .i64 x4_39 ∧ Aside0 (spec_l5Family.l1 kq x3_2 x4_39 l0_0 = some r) ∧ Aside0 (kq ≤ k4_) ∧ Aside0 (MS w w' [.box gb1 30 #[.slice (some ad140) l0_0.length c0_0]]))
              case atStart => exact ⟨(0), (by first | rfl | (simp; done) | (simp only [i64_w]; done) | (simp [i64_w]; done) | (simp [*]; done)), H', ⟨Nat.le_refl _⟩, HM⟩
              case round =>
                clear H'
                clear HM
                obtain ⟨x4_39, rfl, HA, HK40_, HM⟩ := hrel
                cases gk with
                | zero => exact absurd HA.out (by simp [spec_l5Family.l1])
                | succ k41_ =>
                  have H := HA.out
                  clear HA
                  simp only [spec_l5Family.l1] at H
                  by_cases c42_ : x4_39 < x3_2
                  · rw [if_pos c42_] at H
                    have c42_b0 : decide (x4_39 < x3_2) = true := decide_eq_true c42_
                    clear c42_
                    by_cases c43_ : 0 ≤ x4_39
                    · rw [if_pos c43_] at H
                      have c43_b0 : decide (0 ≤ x4_39) = true := decide_eq_true c43_
                      clear c43_
                      by_cases c44_ : x4_39 < (l0_0.length : Int)
                      · rw [if_pos c44_] at H
                        have c44_b0 : decide (x4_39 < (l0_0.length : Int)) = true := decide_eq_true c44_
                        clear c44_
                        by_cases c45_ : 0 ≤ x3_2
                        · rw [if_pos c45_] at H
                          have c45_b0 : decide (0 ≤ x3_2) = true := decide_eq_true c45_
                          clear c45_
                          by_cases c46_ : x3_2 < (l0_0.length : Int)
                          · rw [if_pos c46_] at H
                            have c46_b0 : decide (x3_2 < (l0_0.length : Int)) = true := decide_eq_true c46_
                            clear c46_
                            replace H := Option.bind_eq_some_iff.mp H
                            obtain ⟨t146, A47_0, H⟩ := H
                            replace H : (if t146 = true then (some false) else (spec_l5Family.l1 k41_ x3_2 (wrap64 (x4_39 + 1)) l0_0)) = some r := H
                            have A47_ := Aside0.mk A47_0
                            clear A47_0
                            by_cases c48_ : t146 = true
                            · subst c48_
                              have H1 : (some false) = some r := by rw [if_pos rfl] at H; exact H
                              clear H
                              have H := H1
                              clear H1
                              obtain rfl := Option.some.inj H
                              go_wp2
                              have hcz49_0 : wr.cell? ⟨gb1, 0, none⟩ = some (.slice (some ad140) l0_0.length c0_0) := (blk_cell (HM.out.box 0 rfl) 0).trans rfl
                              have hfz49_0 := blk_frozen (HM.out.box 0 rfl) 0
                              have p144 : 0 ≤ (x4_39 : Int) := of_decide_eq_true (by first | (with_reducible assumption) | assumption)
                              have q144 : (x4_39 : Int) < (l0_0.length : Int) := of_decide_eq_true (by first | (with_reducible assumption) | assumption)
                              obtain ⟨ad144, e144, hx144⟩ := Kd.at_int HR0_0.out x4_39 p144 q144
                              obtain rfl : ad140 = ad144 := (by injection e144)
                              replace hx144 := (HM.out.below.cell (World.block_lt_of_cell? w _ hx144)).trans hx144
                              replace p144 := eq_true p144
                              replace q144 := eq_true q144
                              have p145 : 0 ≤ (x3_2 : Int) := of_decide_eq_true (by first | (with_reducible assumption) | assumption)
                              have q145 : (x3_2 : Int) < (l0_0.length : Int) := of_decide_eq_true (by first | (with_reducible assumption) | assumption)
                              obtain ⟨ad145, e145, hx145⟩ := Kd.at_int HR0_0.out x3_2 p145 q145
                              obtain rfl : ad140 = ad145 := (by injection e145)
                              replace hx145 := (HM.out.below.cell (World.block_lt_of_cell? w _ hx145)).trans hx145
                              replace p145 := eq_true p145
                              replace q145 := eq_true q145
                              go_quiet ((go_at_call 70; refine calls_quiet (v := .bool true) ?_; exact (spec_l5Part.calls (rd l0_0 x4_39) (rd l0_0 x3_2) true _  A47_.out)))
                              generalize hw : World.drewN _ _ = w51_
                              have n_ := Aside0.mk (HM.out.step (show Below _ _ w51_ from hw ▸ pw_below_drewN (Below.refl _ _) _))
                              clear HM hw
                              have HM := n_
                              clear n_
                              go_wp2
                              go_ret
                              exact ⟨by first | rfl | (simp; done) | (simp only [i64_w]; done) | (simp [i64_w]; done) | (simp [*]; done), HM.out.below⟩
                            · replace c48_ := Bool.eq_false_iff.mpr c48_
                              subst c48_
                              have H1 : (spec_l5Family.l1 k41_ x3_2 (wrap64 (x4_39 + 1)) l0_0) = some r := by rw [if_neg (show ¬ (false = true) by decide)] at H; exact H
                              clear H
                              have H := H1
                              clear H1
                              have H' := Aside0.mk H
                              clear H
                              go_wp2
                              have hcz52_0 : wr.cell? ⟨gb1, 0, none⟩ = some (.slice (some ad140) l0_0.length c0_0) := (blk_cell (HM.out.box 0 rfl) 0).trans rfl
                              have hfz52_0 := blk_frozen (HM.out.box 0 rfl) 0
                              have p144 : 0 ≤ (x4_39 : Int) := of_decide_eq_true (by first | (with_reducible assumption) | assumption)
                              have q144 : (x4_39 : Int) < (l0_0.length : Int) := of_decide_eq_true (by first | (with_reducible assumption) | assumption)
                              obtain ⟨ad144, e144, hx144⟩ := Kd.at_int HR0_0.out x4_39 p144 q144
                              obtain rfl : ad140 = ad144 := (by injection e144)
                              replace hx144 := (HM.out.below.cell (World.block_lt_of_cell? w _ hx144)).trans hx144
                              replace p144 := eq_true p144
                              replace q144 := eq_true q144
                              have p145 : 0 ≤ (x3_2 : Int) := of_decide_eq_true (by first | (with_reducible assumption) | assumption)
                              have q145 : (x3_2 : Int) < (l0_0.length : Int) := of_decide_eq_true (by first | (with_reducible assumption) | assumption)
                              obtain ⟨ad145, e145, hx145⟩ := Kd.at_int HR0_0.out x3_2 p145 q145
                              obtain rfl : ad140 = ad145 := (by injection e145)
                              replace hx145 := (HM.out.below.cell (World.block_lt_of_cell? w _ hx145)).trans hx145
                              replace p145 := eq_true p145
                              replace q145 := eq_true q145
                              go_quiet ((go_at_call 70; refine calls_quiet (v := .bool false) ?_; exact (spec_l5Part.calls (rd l0_0 x4_39) (rd l0_0 x3_2) false _  A47_.out)))
                              generalize hw : World.drewN _ _ = w54_
                              have n_ := Aside0.mk (HM.out.step (show Below _ _ w54_ from hw ▸ pw_below_drewN (Below.refl _ _) _))
                              clear HM hw
                              have HM := n_
                              clear n_
                              go_wp2
                              go_roundg k41_
                              case measure => have hHK3__ := HK3_.out; have hHK40__ := HK40_.out; omega
                              case rel => exact ⟨(wrap64 (x4_39 + 1)), (by first | rfl | (simp; done) | (simp only [i64_w]; done) | (simp [i64_w]; done) | (simp [*]; done)), H', ⟨by have hHK3__ := HK3_.out; have hHK40__ := HK40_.out; omega⟩, HM⟩
                          · rw [if_neg c46_] at H
                            have c46_b0 : decide (x3_2 < (l0_0.length : Int)) = false := decide_eq_false c46_
                            clear c46_
                            exact absurd H (by simp)
                        · rw [if_neg c45_] at H
                          have c45_b0 : decide (0 ≤ x3_2) = false := decide_eq_false c45_
                          clear c45_
                          exact absurd H (by simp)
                      · rw [if_neg c44_] at H
                        have c44_b0 : decide (x4_39 < (l0_0.length : Int)) = false := decide_eq_false c44_
                        clear c44_
                        exact absurd H (by simp)
                    · rw [if_neg c43_] at H
                      have c43_b0 : decide (0 ≤ x4_39) = false := decide_eq_false c43_
                      clear c43_
                      exact absurd H (by simp)
                  · rw [if_neg c42_] at H
                    have c42_b0 : decide (x4_39 < x3_2) = false := decide_eq_false c42_
                    clear c42_
                    have H' := Aside0.mk H
                    clear H
                    go_wp2
                    go_roundg k41_
                    case measure => have hHK3__ := HK3_.out; have hHK40__ := HK40_.out; omega
                    case rel => exact ⟨(wrap64 (x3_2 + 1)), (by first | rfl | (simp; done) | (simp only [i64_w]; done) | (simp [i64_w]; done) | (simp [*]; done)), H', ⟨by have hHK3__ := HK3_.out; have hHK40__ := HK40_.out; omega⟩, HM⟩
          · replace c8_ := Bool.eq_false_iff.mpr c8_
            subst c8_
            have H1 : (some false) = some r := by rw [if_neg (show ¬ (false = true) by decide)] at H; exact H
            clear H
            have H := H1
            clear H1
            obtain rfl := Option.some.inj H
            have hcz55_0 : wr.cell? ⟨gb1, 0, none⟩ = some (.slice A0_0 l0_0.length c0_0) := (blk_cell (HM.out.box 0 rfl) 0).trans rfl
            have hfz55_0 := blk_frozen (HM.out.box 0 rfl) 0
            go_wp2
            have p140 : 0 ≤ (x3_2 : Int) := of_decide_eq_true (by first | (with_reducible assumption) | assumption)
            have q140 : (x3_2 : Int) < (l0_0.length : Int) := of_decide_eq_true (by first | (with_reducible assumption) | assumption)
            obtain ⟨ad140, e140, hx140⟩ := Kd.at_int HR0_0.out x3_2 p140 q140
            cases e140
            replace hx140 := (HM.out.below.cell (World.block_lt_of_cell? w _ hx140)).trans hx140
            replace p140 := eq_true p140
            replace q140 := eq_true q140
            go_quiet ((go_at_call 69; refine calls_quiet (v := .bool false) ?_; exact (spec_l3Set.calls (rd l0_0 x3_2) false _  A7_.out)))
            generalize hw : World.drewN _ _ = w57_
            have n_ := Aside0.mk (HM.out.step (show Below _ _ w57_ from hw ▸ pw_below_drewN (Below.refl _ _) _))
            clear HM hw
            have HM := n_
            clear n_
            go_wp2
            go_ret
            exact ⟨by first | rfl | (simp; done) | (simp only [i64_w]; done) | (simp [i64_w]; done) | (simp [*]; done), HM.out.below⟩
        · rw [if_neg c6_] at H
          have c6_b0 : decide (0 ≤ x3_2) = false := decide_eq_false c6_
          clear c6_
          exact absurd H (by simp)
      · rw [if_neg c5_] at H
        have c5_b0 : decide (x3_2 < (l0_0.length : Int)) = false := decide_eq_false c5_
        clear c5_
        obtain rfl := Option.some.inj H
        have hcz58_0 : wr.cell? ⟨gb1, 0, none⟩ = some (.slice A0_0 l0_0.length c0_0) := (blk_cell (HM.out.box 0 rfl) 0).trans rfl
        have hfz58_0 := blk_frozen (HM.out.box 0 rfl) 0
        go_wp2
        go_ret
        exact ⟨by first | rfl | (simp; done) | (simp only [i64_w]; done) | (simp [i64_w]; done) | (simp [*]; done), HM.out.below⟩

/-! ### spec_l5Has: function 71 -/
def spec_l5Has.l0 : Nat → (Int) → (Int) → (List Int) → Option (Bool)
  | 0, _, _, _ => none
  | k + 1, x1, x5, m1_0 => if x5 < (m1_0.length : Int) then (if 0 ≤ x5 then ((spec_l5Part.f (rd m1_0 x5) x1).bind fun t148 => (if t148 = true then (some true) else (spec_l5Has.l0 k x1 (wrap64 (x5 + 1)) m1_0))) else (none)) else (some false)
def spec_l5Has.f (k : Nat) (l0_0 : List Int) (a1 : Int) : Option (Bool) := spec_l5Has.l0 k a1 0 l0_0
set_option maxHeartbeats 8000000 in
set_option maxRecDepth 100000 in
theorem spec_l5Has.calls (k : Nat) (A0_0 : Option Addr) (c0_0 : Nat) (l0_0 : List Int) (a1 : Int) (r : Bool) (w : World) (hr0_0 : Kd.C (Kd.int .i64) w A0_0 l0_0.length l0_0) (hc0_0 : l0_0.length ≤ c0_0) (h : spec_l5Has.f k l0_0 a1 = some r) :
    Calls Try.prog 71 #[.agg #[.slice A0_0 l0_0.length c0_0], .int .i64 a1] w fun e w' => e = .returned (.bool r) ∧ Below w.heap.size w w' := by
  have HR0_0 := Aside0.mk hr0_0
  have HC0_0 := Aside0.mk hc0_0
  clear hr0_0 hc0_0
  have hu22 := Try.underlying22
  have hu30 := Try.underlying30
  have HM := Aside0.mk (MS.start w)
  have H : (spec_l5Has.l0 k a1 0 l0_0) = some r := h
  clear h
  have H' := Aside0.mk H
  clear H
  go_enter Try.func71, Try.ntmps71
  go_wp2_with (first | ((with_reducible refine gate_dst (N := 2) rfl ?_); refine box_event ?hg (N := 2) ?hd (cs := #[.slice A0_0 l0_0.length c0_0]) (t := 30) ?hr ?_; (case hd => rfl); (case hg => rfl); (case hr => first | (go_simp; done) | (go_simp; rfl)); intro gb1 hg w1_ hbox hb; have n_ := Aside0.mk (HM.out.addBox hb hbox hg); clear HM; have HM := n_; clear n_; clear hb hbox hg))
  go_loopg [5] k (fun kq v5 w' => ∃ (x5_2 : Int), v5 = .int .i64 x5_2 ∧ Aside0 (spec_l5Has.l0 kq a1 x5_2 l0_0 = some r) ∧ Aside0 (kq ≤ k) ∧ Aside0 (MS w w' [.box gb1 30 #[.slice A0_0 l0_0.length c0_0]]))
  case atStart => exact ⟨(0), (by first | rfl | (simp; done) | (simp only [i64_w]; done) | (simp [i64_w]; done) | (simp [*]; done)), H', ⟨Nat.le_refl _⟩, HM⟩
  case round =>
    clear H'
    clear HM
    obtain ⟨x5_2, rfl, HA, HK3_, HM⟩ := hrel
    cases gk with
    | zero => exact absurd HA.out (by simp [spec_l5Has.l0])
    | succ k4_ =>
      have H := HA.out
      clear HA
      simp only [spec_l5Has.l0] at H
      by_cases c5_ : x5_2 < (l0_0.length : Int)
      · rw [if_pos c5_] at H
        have c5_b0 : decide (x5_2 < (l0_0.length : Int)) = true := decide_eq_true c5_
        clear c5_
        by_cases c6_ : 0 ≤ x5_2
        · rw [if_pos c6_] at H
          have c6_b0 : decide (0 ≤ x5_2) = true := decide_eq_true c6_
          clear c6_
          replace H := Option.bind_eq_some_iff.mp H
          obtain ⟨t148, A7_0, H⟩ := H
          replace H : (if t148 = true then (some true) else (spec_l5Has.l0 k4_ a1 (wrap64 (x5_2 + 1)) l0_0)) = some r := H
          have A7_ := Aside0.mk A7_0
          clear A7_0
          by_cases c8_ : t148 = true
          · subst c8_
            have H1 : (some true) = some r := by rw [if_pos rfl] at H; exact H
            clear H
            have H := H1
            clear H1
            obtain rfl := Option.some.inj H
            have hcz9_0 : wr.cell? ⟨gb1, 0, none⟩ = some (.slice A0_0 l0_0.length c0_0) := (blk_cell (HM.out.box 0 rfl) 0).trans rfl
            have hfz9_0 := blk_frozen (HM.out.box 0 rfl) 0
            have p147 : 0 ≤ (x5_2 : Int) := of_decide_eq_true (by first | (with_reducible assumption) | assumption)
            have q147 : (x5_2 : Int) < (l0_0.length : Int) := of_decide_eq_true (by first | (with_reducible assumption) | assumption)
            obtain ⟨ad147, e147, hx147⟩ := Kd.at_int HR0_0.out x5_2 p147 q147
            cases e147
            replace hx147 := (HM.out.below.cell (World.block_lt_of_cell? w _ hx147)).trans hx147
            replace p147 := eq_true p147
            replace q147 := eq_true q147
            go_wp2_with (first | ((with_reducible refine gate_callee (f := 70) rfl ?_); (with_reducible refine gate_dst (N := 19) rfl ?_); refine goesL_ (some 19) rfl rfl Try.func70 (by kernel_rfl) rfl #[.int .i64 (rd l0_0 x5_2), .int .i64 a1] rfl (by (try simp only [List.map_toArray, List.map_cons, List.map_nil]); first | done | rfl | (simp only [List.length_drop, List.length_take]; rfl)) ?_; (with_reducible refine (spec_l5Part.calls (rd l0_0 x5_2) a1 true _  A7_.out).mono ?_); rintro e_ w10_ ⟨rfl, hd_⟩; refine ⟨_, rfl, ?_⟩; have hb := hd_.below; clear hd_; have n_ := Aside0.mk (HM.out.step hb); clear HM; have HM := n_; clear n_; clear hb))
            go_ret
            exact ⟨by first | rfl | (simp; done) | (simp only [i64_w]; done) | (simp [i64_w]; done) | (simp [*]; done), HM.out.below⟩
          · replace c8_ := Bool.eq_false_iff.mpr c8_
            subst c8_
            have H1 : (spec_l5Has.l0 k4_ a1 (wrap64 (x5_2 + 1)) l0_0) = some r := by rw [if_neg (show ¬ (false = true) by decide)] at H; exact H
            clear H
            have H := H1
            clear H1
            have H' := Aside0.mk H
            clear H
            have hcz11_0 : wr.cell? ⟨gb1, 0, none⟩ = some (.slice A0_0 l0_0.length c0_0) := (blk_cell (HM.out.box 0 rfl) 0).trans rfl
            have hfz11_0 := blk_frozen (HM.out.box 0 rfl) 0
            have p147 : 0 ≤ (x5_2 : Int) := of_decide_eq_true (by first | (with_reducible assumption) | assumption)
            have q147 : (x5_2 : Int) < (l0_0.length : Int) := of_decide_eq_true (by first | (with_reducible assumption) | assumption)
            obtain ⟨ad147, e147, hx147⟩ := Kd.at_int HR0_0.out x5_2 p147 q147
            cases e147
            replace hx147 := (HM.out.below.cell (World.block_lt_of_cell? w _ hx147)).trans hx147
            replace p147 := eq_true p147
            replace q147 := eq_true q147
            go_wp2_with (first | ((with_reducible refine gate_callee (f := 70) rfl ?_); (with_reducible refine gate_dst (N := 19) rfl ?_); refine goesL_ (some 19) rfl rfl Try.func70 (by kernel_rfl) rfl #[.int .i64 (rd l0_0 x5_2), .int .i64 a1] rfl (by (try simp only [List.map_toArray, List.map_cons, List.map_nil]); first | done | rfl | (simp only [List.length_drop, List.length_take]; rfl)) ?_; (with_reducible refine (spec_l5Part.calls (rd l0_0 x5_2) a1 false _  A7_.out).mono ?_); rintro e_ w12_ ⟨rfl, hd_⟩; refine ⟨_, rfl, ?_⟩; have hb := hd_.below; clear hd_; have n_ := Aside0.mk (HM.out.step hb); clear HM; have HM := n_; clear n_; clear hb))
            go_roundg k4_
            case measure => have hHK3__ := HK3_.out; omega
            case rel => exact ⟨(wrap64 (x5_2 + 1)), (by first | rfl | (simp; done) | (simp only [i64_w]; done) | (simp [i64_w]; done) | (simp [*]; done)), H', ⟨by have hHK3__ := HK3_.out; omega⟩, HM⟩
        · rw [if_neg c6_] at H
          have c6_b0 : decide (0 ≤ x5_2) = false := decide_eq_false c6_
          clear c6_
          exact absurd H (by simp)
      · rw [if_neg c5_] at H
        have c5_b0 : decide (x5_2 < (l0_0.length : Int)) = false := decide_eq_false c5_
        clear c5_
        obtain rfl := Option.some.inj H
        have hcz13_0 : wr.cell? ⟨gb1, 0, none⟩ = some (.slice A0_0 l0_0.length c0_0) := (blk_cell (HM.out.box 0 rfl) 0).trans rfl
        have hfz13_0 := blk_frozen (HM.out.box 0 rfl) 0
        go_wp2
        go_ret
        exact ⟨by first | rfl | (simp; done) | (simp only [i64_w]; done) | (simp [i64_w]; done) | (simp [*]; done), HM.out.below⟩

/-! ### spec_l5Members: function 44 -/
def spec_l5Members.l0 : Nat → (Int) → (List Bool) → (List Int) → Option (List Bool)
  | 0, _, _, _ => none
  | k + 1, x4, m3, m1_0 => if x4 < 64 then ((spec_l5Has.f k m1_0 x4).bind fun t149 => (if 0 ≤ x4 then (spec_l5Members.l0 k (wrap64 (x4 + 1)) (m3.set (x4 : Int).toNat t149) m1_0) else (none))) else (some m3)
def spec_l5Members.f (k : Nat) (l0_0 : List Int) : Option (List Bool) := spec_l5Members.l0 k 0 (List.replicate 64 false) l0_0
set_option maxHeartbeats 8000000 in
set_option maxRecDepth 100000 in
theorem spec_l5Members.calls (k : Nat) (A0_0 : Option Addr) (c0_0 : Nat) (l0_0 : List Int) (r : List Bool) (w : World) (hr0_0 : Kd.C (Kd.int .i64) w A0_0 l0_0.length l0_0) (hc0_0 : l0_0.length ≤ c0_0) (h : spec_l5Members.f k l0_0 = some r) :
    Calls Try.prog 44 #[.agg #[.slice A0_0 l0_0.length c0_0]] w fun e w' => e = .returned (.agg (bcs r)) ∧ r.length = 64 ∧ Below w.heap.size w w' := by
  have HR0_0 := Aside0.mk hr0_0
  have HC0_0 := Aside0.mk hc0_0
  clear hr0_0 hc0_0
  have hu30 := Try.underlying30
  have hu48 := Try.underlying48
  have HM := Aside0.mk (MS.start w)
  have H : (spec_l5Members.l0 k 0 (List.replicate 64 false) l0_0) = some r := h
  clear h
  have H' := Aside0.mk H
  clear H
  go_enter Try.func44, Try.ntmps44
  go_wp2_with (first | ((with_reducible refine gate_dst (N := 1) rfl ?_); refine box_event ?hg (N := 1) ?hd (cs := #[.slice A0_0 l0_0.length c0_0]) (t := 30) ?hr ?_; (case hd => rfl); (case hg => rfl); (case hr => first | (go_simp; done) | (go_simp; rfl)); intro gb1 hg w1_ hbox hb; have n_ := Aside0.mk (HM.out.addBox hb hbox hg); clear HM; have HM := n_; clear n_; clear hb hbox hg) | ((with_reducible refine gate_dst (N := 2) rfl ?_); refine box_event ?hg (N := 2) ?hd (cs := (bcs (List.replicate 64 false))) (t := 48) ?hr ?_; (case hd => rfl); (case hg => rfl); (case hr => first | (go_simp; done) | (go_simp; rfl)); intro gb2 hg w2_ hbox hb; have n_ := Aside0.mk (HM.out.addBox hb hbox hg); clear HM; have HM := n_; clear n_; clear hb hbox hg) | ((with_reducible refine gate_dst (N := 5) rfl ?_); refine build_zero ?hg (N := 5) ?hd (cs := (bcs (List.replicate 64 false))) ?hr ?_; (case hd => rfl); (case hg => rfl); (case hr => first | (go_simp; done) | (go_simp; rfl))) | ((with_reducible refine gate_dst (N := 3) rfl ?_); refine box_event ?hg (N := 3) ?hd (cs := (bcs (List.replicate 64 false))) (t := 48) ?hr ?_; (case hd => rfl); (case hg => rfl); (case hr => first | (go_simp; done) | (go_simp; rfl)); intro gb3 hg w3_ hbox hb; have n_ := Aside0.mk (HM.out.addBox hb hbox hg); clear HM; have HM := n_; clear n_; clear hb hbox hg) | ((with_reducible refine gate_store (t := 48) (p := 3) rfl ?_); refine wpList_store_row rfl _ _ _ rfl gb3 (bcs (List.replicate 64 false)) rfl rfl 48 (bcs (List.replicate 64 false)) (HM.out.box 0 rfl) (by rw [bcs_size, (List.length_replicate)]; kernel_rfl) ((bcs_size _).trans (((List.length_replicate)).trans ((show _ = 64 from (List.length_replicate)).symm.trans (bcs_size _).symm))) (bcs_one _) ?_; generalize hw : World.setRow _ _ _ = w4_; have n_ : Aside0 (MS w w4_ [.box gb3 48 (bcs (List.replicate 64 false)), .box gb2 48 (bcs (List.replicate 64 false)), .box gb1 30 #[.slice A0_0 l0_0.length c0_0]]) := ⟨by rw [← hw]; exact HM.out.setRow 0 rfl _⟩; clear HM hw; have HM := n_; clear n_))
  go_loopg [4] k (fun kq v4 w' => ∃ (x4_5 : Int) (m3_5 : List Bool), v4 = .int .i64 x4_5 ∧ Aside0 (spec_l5Members.l0 kq x4_5 m3_5 l0_0 = some r) ∧ Aside0 (kq ≤ k) ∧ Aside0 (m3_5.length = 64) ∧ Aside0 (MS w w' [.box gb3 48 (bcs m3_5), .box gb2 48 (bcs (List.replicate 64 false)), .box gb1 30 #[.slice A0_0 l0_0.length c0_0]]))
  case atStart => exact ⟨(0), ((List.replicate 64 false)), (by first | rfl | (simp; done) | (simp only [i64_w]; done) | (simp [i64_w]; done) | (simp [*]; done)), H', ⟨Nat.le_refl _⟩, ⟨(List.length_replicate)⟩, HM⟩
  case round =>
    clear H'
    clear HM
    obtain ⟨x4_5, m3_5, rfl, HA, HK6_, HLm3_5, HM⟩ := hrel
    cases gk with
    | zero => exact absurd HA.out (by simp [spec_l5Members.l0])
    | succ k7_ =>
      have H := HA.out
      clear HA
      simp only [spec_l5Members.l0] at H
      by_cases c8_ : x4_5 < 64
      · rw [if_pos c8_] at H
        have c8_b0 : decide (x4_5 < 64) = true := decide_eq_true c8_
        clear c8_
        replace H := Option.bind_eq_some_iff.mp H
        obtain ⟨t149, A9_0, H⟩ := H
        replace H : (if 0 ≤ x4_5 then (spec_l5Members.l0 k7_ (wrap64 (x4_5 + 1)) (m3_5.set (x4_5 : Int).toNat t149) l0_0) else (none)) = some r := H
        have A9_ := Aside0.mk A9_0
        clear A9_0
        by_cases c10_ : 0 ≤ x4_5
        · rw [if_pos c10_] at H
          have c10_b0 : decide (0 ≤ x4_5) = true := decide_eq_true c10_
          clear c10_
          obtain ⟨y150, hy150⟩ : ∃ y_, y_ = (m3_5.set (x4_5 : Int).toNat t149) := ⟨_, rfl⟩
          replace H : (spec_l5Members.l0 k7_ (wrap64 (x4_5 + 1)) y150 l0_0) = some r := by first | (rw [hy150]; with_reducible exact H) | (have H2_ := (Option.bind_some _ _).symm.trans H; rw [hy150]; with_reducible exact H2_) | (have H2_ := (Option.bind_some _ _).symm.trans H; with_reducible exact H2_) | with_reducible exact H | (rw [hy150]; exact H) | exact H
          have Ny150 := Aside0.mk hy150
          clear hy150
          have H' := Aside0.mk H
          clear H
          have hcz11_0 : wr.cell? ⟨gb1, 0, none⟩ = some (.slice A0_0 l0_0.length c0_0) := (blk_cell (HM.out.box 2 rfl) 0).trans rfl
          have hfz11_0 := blk_frozen (HM.out.box 2 rfl) 0
          go_wp2_with (first | ((with_reducible refine gate_callee (f := 71) rfl ?_); (with_reducible refine gate_dst (N := 13) rfl ?_); refine goesL_ (some 13) rfl rfl Try.func71 (by kernel_rfl) rfl #[.agg #[.slice A0_0 l0_0.length c0_0], .int .i64 x4_5] rfl (by (try simp only [List.map_toArray, List.map_cons, List.map_nil]); first | done | rfl | (simp only [List.length_drop, List.length_take]; rfl)) ?_; (with_reducible refine (spec_l5Has.calls k7_ _ _ l0_0 x4_5 t149 _ ?sd0 ?sd1 A9_.out).mono ?_); (case sd0 => exact (Kd.C_below HR0_0.out HM.out.below)); (case sd1 => exact HC0_0.out); rintro e_ w12_ ⟨rfl, hb⟩; refine ⟨_, rfl, ?_⟩; have n_ := Aside0.mk (HM.out.step hb); clear HM; have HM := n_; clear n_; clear hb; have p151 : 0 ≤ (x4_5 : Int) := of_decide_eq_true (by first | (with_reducible assumption) | assumption); have q151 : (x4_5 : Int) < 64 := of_decide_eq_true (by first | (with_reducible assumption) | assumption); have hx151 := bcell (HM.out.box 0 rfl) x4_5 p151 (by have := HLm3_5.out; omega); have hf151 := blk_frozen (HM.out.box 0 rfl) (x4_5 : Int).toNat; replace p151 := eq_true p151; replace q151 := eq_true q151) | ((with_reducible refine gate_store (t := 4) (p := 14) rfl ?_); refine store_event (t := 4) (p := 14) (v := ?vow13_) (w1 := (w12_.setCell ⟨gb3, (x4_5 : Int).toNat, none⟩ (.bool t149))) ?hg ?ho ?hn ?hr ?_; (case ho => rfl); (case hg => rfl); (case hn => rfl); (case hr => first | (go_simp; done) | (go_simp; rfl)); intro w13_ hw; have n_ : Aside0 (MS w w13_ [.box gb3 48 (bcs y150), .box gb2 48 (bcs (List.replicate 64 false)), .box gb1 30 #[.slice A0_0 l0_0.length c0_0]]) := ⟨by rw [hw]; exact HM.out.setBox 0 rfl _ _ (by rw [bcs_set, ← Ny150.out])⟩; clear HM hw; have HM := n_; clear n_))
          go_roundg k7_
          case measure => have hHK6__ := HK6_.out; omega
          case rel => exact ⟨(wrap64 (x4_5 + 1)), (y150), (by first | rfl | (simp; done) | (simp only [i64_w]; done) | (simp [i64_w]; done) | (simp [*]; done)), H', ⟨by have hHK6__ := HK6_.out; omega⟩, ⟨(show y150.length = 64 from by rw [Ny150.out, List.length_set]; exact HLm3_5.out)⟩, HM⟩
        · rw [if_neg c10_] at H
          have c10_b0 : decide (0 ≤ x4_5) = false := decide_eq_false c10_
          clear c10_
          exact absurd H (by simp)
      · rw [if_neg c8_] at H
        have c8_b0 : decide (x4_5 < 64) = false := decide_eq_false c8_
        clear c8_
        obtain rfl := Option.some.inj H
        go_wp2_with (first | ((with_reducible refine gate_dst (N := 15) rfl ?_); refine wpList_load_row rfl _ _ rfl gb3 rfl 48 (bcs m3_5) (0, 0) _ (HM.out.box 0 rfl) Try.underlying48 rfl (by rw [bcs_size, HLm3_5.out]; kernel_rfl) ?_) | ((with_reducible refine gate_store (t := 48) (p := 2) rfl ?_); refine wpList_store_row rfl _ _ _ rfl gb2 (bcs m3_5) rfl rfl 48 (bcs (List.replicate 64 false)) (HM.out.box 1 rfl) (by rw [bcs_size, HLm3_5.out]; kernel_rfl) ((bcs_size _).trans (((List.length_replicate)).trans ((show _ = 64 from HLm3_5.out).symm.trans (bcs_size _).symm))) (bcs_one _) ?_; generalize hw : World.setRow _ _ _ = w14_; have n_ : Aside0 (MS w w14_ [.box gb3 48 (bcs m3_5), .box gb2 48 (bcs m3_5), .box gb1 30 #[.slice A0_0 l0_0.length c0_0]]) := ⟨by rw [← hw]; exact HM.out.setRow 1 rfl _⟩; clear HM hw; have HM := n_; clear n_))
        refine bodyPost_ret (results_cell_row rfl _ _ gb2 48 (bcs m3_5) (0, 0) _ rfl (HM.out.box 1 rfl) Try.underlying48 rfl (by rw [bcs_size, HLm3_5.out]; kernel_rfl)) rfl ?_
        exact ⟨by first | rfl | (simp; done) | (simp only [i64_w]; done) | (simp [i64_w]; done) | (simp [*]; done), HLm3_5.out, HM.out.below⟩

/-! ### spec_l6For: function 34 -/
def spec_l6For.f (k : Nat) (l0 : List Int) (l1 : List Bool) : Option (Bool) := (spec_l3Table.f k l0).bind fun t152 => (some (t152 == l1))
set_option maxHeartbeats 8000000 in
set_option maxRecDepth 100000 in
theorem spec_l6For.calls (k : Nat) (A0 : Option Addr) (c0 : Nat) (l0 : List Int) (l1 : List Bool) (r : Bool) (w : World) (hr0 : Kd.C (Kd.int .i64) w A0 l0.length l0) (hc0 : l0.length ≤ c0) (hl1 : l1.length = 64) (h : spec_l6For.f k l0 l1 = some r) :
    Calls Try.prog 34 #[.slice A0 l0.length c0, .agg (bcs l1)] w fun e w' => e = .returned (.bool r) ∧ Below w.heap.size w w' := by
  have HR0 := Aside0.mk hr0
  have HC0 := Aside0.mk hc0
  clear hr0 hc0
  have HL1 := Aside0.mk hl1
  clear hl1
  have hu48 := Try.underlying48
  have HM := Aside0.mk (MS.start w)
  have H : ((spec_l3Table.f k l0).bind fun t152 => (some (t152 == l1))) = some r := h
  clear h
  replace H := Option.bind_eq_some_iff.mp H
  obtain ⟨t152, A1_0, H⟩ := H
  replace H : (some (t152 == l1)) = some r := H
  have A1_ := Aside0.mk A1_0
  clear A1_0
  have H' := Aside0.mk H
  clear H
  go_enter Try.func34, Try.ntmps34
  go_wp2_with (first | ((with_reducible refine gate_dst (N := 3) rfl ?_); refine box_event ?hg (N := 3) ?hd (cs := (bcs l1)) (t := 48) ?hr ?_; (case hd => rfl); (case hg => rfl); (case hr => first | (go_simp; done) | (go_simp; rfl)); intro gb1 hg w2_ hbox hb; have n_ := Aside0.mk (HM.out.addBox hb hbox hg); clear HM; have HM := n_; clear n_; clear hb hbox hg))
  have n_ := Aside0.mk (HM.out.step (below_drew1 (Below.refl w2_.heap.size w2_)))
  clear HM
  have HM := n_
  clear n_
  refine start_ (n := 5) (S := fun w' => (w'.heap[gb1]? = some (.cells (bcs l1) 48 (0, 0)))) (ds := []) #[false, false, false, false, false] (by kernel_rfl) rfl rfl ((HM.out.box 0 rfl)) (fun hHeld => ?_)
  generalize w2_.drew = w3_ at HM hHeld ⊢
  refine pure_ (i := 0) (N := some 5) (v := ?_) (a' := ?_) #[true, false, false, false, false] rfl rfl (by kernel_rfl) (fun _ _ _ h => h) (Or.inl ⟨by rfl, ?_⟩) ?_ ?_
  rotate_left
  · intro w'
    go_simp
    first | with_reducible rfl | (simp [Instr.field, asAgg, Go.part, run_underlying hu48]; rfl) | rfl
  rotate_left
  · simp only [Act.put, List.setIfInBounds_toArray, List.set_cons_zero, List.set_cons_succ, i64_w, i32_w]
    rfl
  refine take_ (i := 2) (N := some 7) (v := ?_) (a' := ?_) #[true, false, true, false, false] rfl rfl (by kernel_rfl) (fun _ _ _ h => h) (Or.inl ⟨by rfl, ?_⟩) hHeld ?_ ?_
  rotate_left
  · intro w' s0
    refine load_arr 48 (.tmp 3) ?hoe4_ gb1 ?hxe4_ 48 (bcs l1) (0, 0) _ (s0) Try.underlying48 rfl (by rw [bcs_size, HL1.out]; kernel_rfl)
    (case hoe4_ => rfl)
    (case hxe4_ => rfl)
  rotate_left
  · simp only [Act.put, List.setIfInBounds_toArray, List.set_cons_zero, List.set_cons_succ, i64_w, i32_w]
    rfl
  refine one_ (i := 1) (N := some 6) #[true, true, true, false, false] rfl rfl (by kernel_rfl) (by decide) (fun K hK => ?_)
  refine goes_ Try.func32 (by kernel_rfl) rfl #[.slice A0 l0.length c0] (by rfl) rfl rfl (by (try simp only [List.map_toArray, List.map_cons, List.map_nil]); first | done | rfl | (simp only [List.length_drop, List.length_take]; rfl)) ?_
  with_reducible refine (spec_l3Table.calls k _ _ l0 t152 _ ?sd0 ?sd1 A1_.out).mono ?_
  (case sd0 => exact (Kd.C_below HR0.out HM.out.below))
  (case sd1 => exact HC0.out)
  rintro e_ w5_ ⟨rfl, ho0_, hb⟩
  refine ⟨_, rfl, ?_⟩
  have HLt152 := Aside0.mk ho0_
  have n_ := Aside0.mk (HM.out.step hb)
  clear HM
  have HM := n_
  clear n_
  clear hb ho0_
  refine hK.out _ _ ((HM.out.box 0 rfl)) (fun hHeld => ?_)
  clear hK K
  refine norm_ (a' := ?_) ?_ ?_
  rotate_left
  · show Act.put _ (some 6) _ = _
    simp only [Act.put, List.setIfInBounds_toArray, List.set_cons_zero, List.set_cons_succ, i64_w, i32_w]
    rfl
  refine pure_ (i := 3) (N := some 8) (v := ?_) (a' := ?_) #[true, true, true, true, false] rfl rfl (by kernel_rfl) (fun _ _ _ h => h) (Or.inl ⟨by rfl, ?_⟩) ?_ ?_
  rotate_left
  · intro w'
    refine eqlB_run (t := 48) (e := 4) (x := .tmp 6) (y := .tmp 7) (rt := 48) (xs := t152) (ys := l1) ?hoe6_ ?hxe6_ ?hye6_ (by kernel_rfl) Try.underlying48 (by kernel_rfl) Try.underlying4 (by kernel_rfl) (by kernel_rfl) HLt152.out HL1.out
    (case hoe6_ => rfl)
    (case hxe6_ => rfl)
    (case hye6_ => rfl)
  rotate_left
  · simp only [Act.put, List.setIfInBounds_toArray, List.set_cons_zero, List.set_cons_succ, i64_w, i32_w]
    rfl
  refine pure_ (i := 4) (N := some 4) (v := ?_) (a' := ?_) #[true, true, true, true, true] rfl rfl (by kernel_rfl) (fun _ _ _ h => h) (Or.inl ⟨by rfl, ?_⟩) ?_ ?_
  rotate_left
  · intro w'
    go_simp
    first | with_reducible rfl | (simp [Instr.field, asAgg, Go.part, run_underlying hu48]; rfl) | rfl
  rotate_left
  · simp only [Act.put, List.setIfInBounds_toArray, List.set_cons_zero, List.set_cons_succ, i64_w, i32_w]
    rfl
  refine done_ (by kernel_rfl) ?_
  have H := H'.out
  clear H'
  obtain rfl := Option.some.inj H
  go_wp2
  go_ret
  exact ⟨by first | rfl | (simp; done) | (simp only [i64_w]; done) | (simp [i64_w]; done) | (simp [*]; done), HM.out.below⟩

/-! ### spec_IsWordFor: function 21 -/
def spec_IsWordFor.f (k : Nat) (l0 : List Int) (l1_0 : List Int) : Option (Bool × Bool) := (spec_l2Word.f k l0).bind fun t153 => (if t153 = true then ((spec_l5Family.f k l1_0).bind fun t154 => (if t154 = true then ((spec_l5Members.f k l1_0).bind fun t155 => ((spec_l6For.f k l0 t155).bind fun t156 => (some (t156, true)))) else (some (false, false)))) else (some (false, false)))
set_option maxHeartbeats 8000000 in
set_option maxRecDepth 100000 in
theorem spec_IsWordFor.calls (k : Nat) (A0 : Option Addr) (c0 : Nat) (l0 : List Int) (A1_0 : Option Addr) (c1_0 : Nat) (l1_0 : List Int) (r1 : Bool) (r2 : Bool) (w : World) (hr0 : Kd.C (Kd.int .i64) w A0 l0.length l0) (hc0 : l0.length ≤ c0) (hr1_0 : Kd.C (Kd.int .i64) w A1_0 l1_0.length l1_0) (hc1_0 : l1_0.length ≤ c1_0) (h : spec_IsWordFor.f k l0 l1_0 = some (r1, r2)) :
    Calls Try.prog 21 #[.slice A0 l0.length c0, .agg #[.slice A1_0 l1_0.length c1_0]] w fun e w' => e = .returned (.tuple #[.bool r1, .bool r2]) ∧ Below w.heap.size w w' := by
  have HR0 := Aside0.mk hr0
  have HC0 := Aside0.mk hc0
  clear hr0 hc0
  have HR1_0 := Aside0.mk hr1_0
  have HC1_0 := Aside0.mk hc1_0
  clear hr1_0 hc1_0
  have hu30 := Try.underlying30
  have HM := Aside0.mk (MS.start w)
  have H : ((spec_l2Word.f k l0).bind fun t153 => (if t153 = true then ((spec_l5Family.f k l1_0).bind fun t154 => (if t154 = true then ((spec_l5Members.f k l1_0).bind fun t155 => ((spec_l6For.f k l0 t155).bind fun t156 => (some (t156, true)))) else (some (false, false)))) else (some (false, false)))) = some (r1, r2) := h
  clear h
  replace H := Option.bind_eq_some_iff.mp H
  obtain ⟨t153, A1_0, H⟩ := H
  replace H : (if t153 = true then ((spec_l5Family.f k l1_0).bind fun t154 => (if t154 = true then ((spec_l5Members.f k l1_0).bind fun t155 => ((spec_l6For.f k l0 t155).bind fun t156 => (some (t156, true)))) else (some (false, false)))) else (some (false, false))) = some (r1, r2) := H
  have A1_ := Aside0.mk A1_0
  clear A1_0
  by_cases c2_ : t153 = true
  · subst c2_
    have H1 : ((spec_l5Family.f k l1_0).bind fun t154 => (if t154 = true then ((spec_l5Members.f k l1_0).bind fun t155 => ((spec_l6For.f k l0 t155).bind fun t156 => (some (t156, true)))) else (some (false, false)))) = some (r1, r2) := by rw [if_pos rfl] at H; exact H
    clear H
    have H := H1
    clear H1
    replace H := Option.bind_eq_some_iff.mp H
    obtain ⟨t154, A3_0, H⟩ := H
    replace H : (if t154 = true then ((spec_l5Members.f k l1_0).bind fun t155 => ((spec_l6For.f k l0 t155).bind fun t156 => (some (t156, true)))) else (some (false, false))) = some (r1, r2) := H
    have A3_ := Aside0.mk A3_0
    clear A3_0
    by_cases c4_ : t154 = true
    · subst c4_
      have H1 : ((spec_l5Members.f k l1_0).bind fun t155 => ((spec_l6For.f k l0 t155).bind fun t156 => (some (t156, true)))) = some (r1, r2) := by rw [if_pos rfl] at H; exact H
      clear H
      have H := H1
      clear H1
      replace H := Option.bind_eq_some_iff.mp H
      obtain ⟨t155, A5_0, H⟩ := H
      replace H : ((spec_l6For.f k l0 t155).bind fun t156 => (some (t156, true))) = some (r1, r2) := H
      have A5_ := Aside0.mk A5_0
      clear A5_0
      replace H := Option.bind_eq_some_iff.mp H
      obtain ⟨t156, A6_0, H⟩ := H
      replace H : (some (t156, true)) = some (r1, r2) := H
      have A6_ := Aside0.mk A6_0
      clear A6_0
      simp only [Option.some.injEq, Prod.mk.injEq] at H
      obtain ⟨rfl, rfl⟩ := H
      go_enter Try.func21, Try.ntmps21
      go_wp2_with (first | ((with_reducible refine gate_dst (N := 3) rfl ?_); refine box_event ?hg (N := 3) ?hd (cs := #[.slice A1_0 l1_0.length c1_0]) (t := 30) ?hr ?_; (case hd => rfl); (case hg => rfl); (case hr => first | (go_simp; done) | (go_simp; rfl)); intro gb1 hg w7_ hbox hb; have n_ := Aside0.mk (HM.out.addBox hb hbox hg); clear HM; have HM := n_; clear n_; clear hb hbox hg) | ((with_reducible refine gate_callee (f := 30) rfl ?_); (with_reducible refine gate_dst (N := 7) rfl ?_); refine goesL_ (some 7) rfl rfl Try.func30 (by kernel_rfl) rfl #[.slice A0 l0.length c0] rfl (by (try simp only [List.map_toArray, List.map_cons, List.map_nil]); first | done | rfl | (simp only [List.length_drop, List.length_take]; rfl)) ?_; (with_reducible refine (spec_l2Word.calls k _ _ l0 true _ ?sd0 ?sd1 A1_.out).mono ?_); (case sd0 => exact (Kd.C_below HR0.out HM.out.below)); (case sd1 => exact HC0.out); rintro e_ w8_ ⟨rfl, hd_⟩; refine ⟨_, rfl, ?_⟩; have hb := hd_.below; clear hd_; have n_ := Aside0.mk (HM.out.step hb); clear HM; have HM := n_; clear n_; clear hb; have hcz9_0 : w8_.cell? ⟨gb1, 0, none⟩ = some (.slice A1_0 l1_0.length c1_0) := (blk_cell (HM.out.box 0 rfl) 0).trans rfl; have hfz9_0 := blk_frozen (HM.out.box 0 rfl) 0) | (go_at_call 43; (refine calls_of_args (args' := #[.agg #[.slice A1_0 l1_0.length c1_0]]) (by first | done | rfl) ?_); (with_reducible refine (spec_l5Family.calls k _ _ l1_0 true _ ?sd0 ?sd1 A3_.out).mono ?_); (case sd0 => exact (Kd.C_below HR1_0.out HM.out.below)); (case sd1 => exact HC1_0.out); rintro e_ w10_ ⟨rfl, hb⟩; have n_ := Aside0.mk (HM.out.step hb); clear HM; have HM := n_; clear n_; clear hb; have hcz11_0 : w10_.cell? ⟨gb1, 0, none⟩ = some (.slice A1_0 l1_0.length c1_0) := (blk_cell (HM.out.box 0 rfl) 0).trans rfl; have hfz11_0 := blk_frozen (HM.out.box 0 rfl) 0) | ((with_reducible refine gate_callee (f := 44) rfl ?_); (with_reducible refine gate_dst (N := 16) rfl ?_); refine goesL_ (some 16) rfl rfl Try.func44 (by kernel_rfl) rfl #[.agg #[.slice A1_0 l1_0.length c1_0]] rfl (by (try simp only [List.map_toArray, List.map_cons, List.map_nil]); first | done | rfl | (simp only [List.length_drop, List.length_take]; rfl)) ?_; (with_reducible refine (spec_l5Members.calls k _ _ l1_0 t155 _ ?sd0 ?sd1 A5_.out).mono ?_); (case sd0 => exact (Kd.C_below HR1_0.out HM.out.below)); (case sd1 => exact HC1_0.out); rintro e_ w12_ ⟨rfl, ho0_, hb⟩; refine ⟨_, rfl, ?_⟩; have HLt155 := Aside0.mk ho0_; have n_ := Aside0.mk (HM.out.step hb); clear HM; have HM := n_; clear n_; clear hb ho0_) | ((with_reducible refine gate_callee (f := 34) rfl ?_); (with_reducible refine gate_dst (N := 17) rfl ?_); refine goesL_ (some 17) rfl rfl Try.func34 (by kernel_rfl) rfl #[.slice A0 l0.length c0, .agg (bcs t155)] rfl (by (try simp only [List.map_toArray, List.map_cons, List.map_nil]); first | done | rfl | (simp only [List.length_drop, List.length_take]; rfl)) ?_; (with_reducible refine (spec_l6For.calls k _ _ l0 t155 t156 _ ?sd0 ?sd1 ?sd2 A6_.out).mono ?_); (case sd0 => exact (Kd.C_below HR0.out HM.out.below)); (case sd1 => exact HC0.out); (case sd2 => exact HLt155.out); rintro e_ w13_ ⟨rfl, hb⟩; refine ⟨_, rfl, ?_⟩; have n_ := Aside0.mk (HM.out.step hb); clear HM; have HM := n_; clear n_; clear hb))
      go_ret2
      exact ⟨by first | rfl | (simp; done) | (simp only [i64_w]; done) | (simp [i64_w]; done) | (simp [*]; done), HM.out.below⟩
    · replace c4_ := Bool.eq_false_iff.mpr c4_
      subst c4_
      have H1 : (some (false, false)) = some (r1, r2) := by rw [if_neg (show ¬ (false = true) by decide)] at H; exact H
      clear H
      have H := H1
      clear H1
      simp only [Option.some.injEq, Prod.mk.injEq] at H
      obtain ⟨rfl, rfl⟩ := H
      go_enter Try.func21, Try.ntmps21
      go_wp2_with (first | ((with_reducible refine gate_dst (N := 3) rfl ?_); refine box_event ?hg (N := 3) ?hd (cs := #[.slice A1_0 l1_0.length c1_0]) (t := 30) ?hr ?_; (case hd => rfl); (case hg => rfl); (case hr => first | (go_simp; done) | (go_simp; rfl)); intro gb1 hg w14_ hbox hb; have n_ := Aside0.mk (HM.out.addBox hb hbox hg); clear HM; have HM := n_; clear n_; clear hb hbox hg) | ((with_reducible refine gate_callee (f := 30) rfl ?_); (with_reducible refine gate_dst (N := 7) rfl ?_); refine goesL_ (some 7) rfl rfl Try.func30 (by kernel_rfl) rfl #[.slice A0 l0.length c0] rfl (by (try simp only [List.map_toArray, List.map_cons, List.map_nil]); first | done | rfl | (simp only [List.length_drop, List.length_take]; rfl)) ?_; (with_reducible refine (spec_l2Word.calls k _ _ l0 true _ ?sd0 ?sd1 A1_.out).mono ?_); (case sd0 => exact (Kd.C_below HR0.out HM.out.below)); (case sd1 => exact HC0.out); rintro e_ w15_ ⟨rfl, hd_⟩; refine ⟨_, rfl, ?_⟩; have hb := hd_.below; clear hd_; have n_ := Aside0.mk (HM.out.step hb); clear HM; have HM := n_; clear n_; clear hb; have hcz16_0 : w15_.cell? ⟨gb1, 0, none⟩ = some (.slice A1_0 l1_0.length c1_0) := (blk_cell (HM.out.box 0 rfl) 0).trans rfl; have hfz16_0 := blk_frozen (HM.out.box 0 rfl) 0) | (go_at_call 43; (refine calls_of_args (args' := #[.agg #[.slice A1_0 l1_0.length c1_0]]) (by first | done | rfl) ?_); (with_reducible refine (spec_l5Family.calls k _ _ l1_0 false _ ?sd0 ?sd1 A3_.out).mono ?_); (case sd0 => exact (Kd.C_below HR1_0.out HM.out.below)); (case sd1 => exact HC1_0.out); rintro e_ w17_ ⟨rfl, hb⟩; have n_ := Aside0.mk (HM.out.step hb); clear HM; have HM := n_; clear n_; clear hb))
      go_ret2
      exact ⟨by first | rfl | (simp; done) | (simp only [i64_w]; done) | (simp [i64_w]; done) | (simp [*]; done), HM.out.below⟩
  · replace c2_ := Bool.eq_false_iff.mpr c2_
    subst c2_
    have H1 : (some (false, false)) = some (r1, r2) := by rw [if_neg (show ¬ (false = true) by decide)] at H; exact H
    clear H
    have H := H1
    clear H1
    simp only [Option.some.injEq, Prod.mk.injEq] at H
    obtain ⟨rfl, rfl⟩ := H
    go_enter Try.func21, Try.ntmps21
    go_wp2_with (first | ((with_reducible refine gate_dst (N := 3) rfl ?_); refine box_event ?hg (N := 3) ?hd (cs := #[.slice A1_0 l1_0.length c1_0]) (t := 30) ?hr ?_; (case hd => rfl); (case hg => rfl); (case hr => first | (go_simp; done) | (go_simp; rfl)); intro gb1 hg w18_ hbox hb; have n_ := Aside0.mk (HM.out.addBox hb hbox hg); clear HM; have HM := n_; clear n_; clear hb hbox hg) | ((with_reducible refine gate_callee (f := 30) rfl ?_); (with_reducible refine gate_dst (N := 7) rfl ?_); refine goesL_ (some 7) rfl rfl Try.func30 (by kernel_rfl) rfl #[.slice A0 l0.length c0] rfl (by (try simp only [List.map_toArray, List.map_cons, List.map_nil]); first | done | rfl | (simp only [List.length_drop, List.length_take]; rfl)) ?_; (with_reducible refine (spec_l2Word.calls k _ _ l0 false _ ?sd0 ?sd1 A1_.out).mono ?_); (case sd0 => exact (Kd.C_below HR0.out HM.out.below)); (case sd1 => exact HC0.out); rintro e_ w19_ ⟨rfl, hd_⟩; refine ⟨_, rfl, ?_⟩; have hb := hd_.below; clear hd_; have n_ := Aside0.mk (HM.out.step hb); clear HM; have HM := n_; clear n_; clear hb))
    go_ret2
    exact ⟨by first | rfl | (simp; done) | (simp only [i64_w]; done) | (simp [i64_w]; done) | (simp [*]; done), HM.out.below⟩

/-! ### impl_isSet: function 72 -/
def impl_isSet.f (a0 : Int) : Option (Bool) := if a0 ≥ 0 then (some (decide (a0 < 64))) else (some false)
set_option maxHeartbeats 8000000 in
set_option maxRecDepth 100000 in
theorem impl_isSet.calls (a0 : Int) (r : Bool) (w : World)  (h : impl_isSet.f a0 = some r) :
    Calls Try.prog 72 #[.int .i64 a0] w fun e w' => e = .returned (.bool r) ∧ Drawn0 w w' := by
  have HM := Aside0.mk (MS.start w)
  have HD := Aside0.mk (Drawn0.refl w)
  have H : (if a0 ≥ 0 then (some (decide (a0 < 64))) else (some false)) = some r := h
  clear h
  by_cases c1_ : a0 ≥ 0
  · rw [if_pos c1_] at H
    have KNc1_ := Aside0.mk c1_
    have c1_b0 : decide (0 ≤ a0) = true := decide_eq_true c1_
    clear c1_
    obtain rfl := Option.some.inj H
    go_enter Try.func72, Try.ntmps72
    go_wp2
    go_ret
    exact ⟨by first | rfl | (simp; done) | (simp only [i64_w]; done) | (simp [i64_w]; done) | (simp [*]; done), HD.out⟩
  · rw [if_neg c1_] at H
    have KNc1_ := Aside0.mk c1_
    have c1_b0 : decide (0 ≤ a0) = false := decide_eq_false c1_
    clear c1_
    obtain rfl := Option.some.inj H
    go_enter Try.func72, Try.ntmps72
    go_wp2
    go_ret
    exact ⟨by first | rfl | (simp; done) | (simp only [i64_w]; done) | (simp [i64_w]; done) | (simp [*]; done), HD.out⟩

/-! ### impl_isFamily: function 45 -/
mutual
def impl_isFamily.l0 : Nat → (List Int) → (Int) → (Int) → (List Int) → Option (Bool)
  | 0, _, _, _, _ => none
  | k + 1, x8, x9, x10, m1_0 => if x10 < x9 then (if 0 ≤ x10 then (if x10 < (x8.length : Int) then ((impl_isSet.f (rd x8 x10)).bind fun t158 => (if t158 = true then (if x10 > 0 then (if 0 ≤ (wrap64 (x10 - 1)) then (if (wrap64 (x10 - 1)) < (m1_0.length : Int) then (if (rd x8 x10) ≤ (rd m1_0 (wrap64 (x10 - 1))) then (some false) else (impl_isFamily.l1 k x10 (rd x8 x10) x8 x9 x10 m1_0 (m1_0.length : Int) 0 m1_0)) else (none)) else (none)) else (impl_isFamily.l1 k x10 (rd x8 x10) x8 x9 x10 m1_0 (m1_0.length : Int) 0 m1_0)) else (some false))) else (none)) else (none)) else (some true)
def impl_isFamily.l1 : Nat → (Int) → (Int) → (List Int) → (Int) → (Int) → (List Int) → (Int) → (Int) → (List Int) → Option (Bool)
  | 0, _, _, _, _, _, _, _, _, _ => none
  | k + 1, x3, x4, x8, x9, x10, x33, x34, x35, m1_0 => if x35 < x34 then (if 0 ≤ x35 then (if x35 < (x33.length : Int) then (if x35 = x3 then (impl_isFamily.l1 k x3 x4 x8 x9 x10 x33 x34 (wrap64 (x35 + 1)) m1_0) else (if (Go.bits .and .i64 (rd x33 x35) x4) = (rd x33 x35) then (some false) else (impl_isFamily.l1 k x3 x4 x8 x9 x10 x33 x34 (wrap64 (x35 + 1)) m1_0))) else (none)) else (none)) else (impl_isFamily.l0 k x8 x9 (wrap64 (x10 + 1)) m1_0)
end
def impl_isFamily.f (k : Nat) (l0_0 : List Int) : Option (Bool) := impl_isFamily.l0 k l0_0 (l0_0.length : Int) 0 l0_0
set_option maxHeartbeats 8000000 in
set_option maxRecDepth 100000 in
theorem impl_isFamily.calls (k : Nat) (A0_0 : Option Addr) (c0_0 : Nat) (l0_0 : List Int) (r : Bool) (w : World) (hr0_0 : Kd.C (Kd.int .i64) w A0_0 l0_0.length l0_0) (hc0_0 : l0_0.length ≤ c0_0) (h : impl_isFamily.f k l0_0 = some r) :
    Calls Try.prog 45 #[.agg #[.slice A0_0 l0_0.length c0_0]] w fun e w' => e = .returned (.bool r) ∧ Below w.heap.size w w' := by
  have HR0_0 := Aside0.mk hr0_0
  have HC0_0 := Aside0.mk hc0_0
  clear hr0_0 hc0_0
  have hu22 := Try.underlying22
  have hu30 := Try.underlying30
  have HM := Aside0.mk (MS.start w)
  have H : (impl_isFamily.l0 k l0_0 (l0_0.length : Int) 0 l0_0) = some r := h
  clear h
  have H' := Aside0.mk H
  clear H
  go_enter Try.func45, Try.ntmps45
  go_wp2_with (first | ((with_reducible refine gate_dst (N := 1) rfl ?_); refine box_event ?hg (N := 1) ?hd (cs := #[.slice A0_0 l0_0.length c0_0]) (t := 30) ?hr ?_; (case hd => rfl); (case hg => rfl); (case hr => first | (go_simp; done) | (go_simp; rfl)); intro gb1 hg w1_ hbox hb; have n_ := Aside0.mk (HM.out.addBox hb hbox hg); clear HM; have HM := n_; clear n_; clear hb hbox hg; have hcz2_0 : w1_.cell? ⟨gb1, 0, none⟩ = some (.slice A0_0 l0_0.length c0_0) := (blk_cell (HM.out.box 0 rfl) 0).trans rfl; have hfz2_0 := blk_frozen (HM.out.box 0 rfl) 0))
  go_loopg [10] k (fun kq v10 w' => ∃ (x10_3 : Int), v10 = .int .i64 x10_3 ∧ Aside0 (impl_isFamily.l0 kq l0_0 (l0_0.length : Int) x10_3 l0_0 = some r) ∧ Aside0 (kq ≤ k) ∧ Aside0 (MS w w' [.box gb1 30 #[.slice A0_0 l0_0.length c0_0]]))
  case atStart => exact ⟨(0), (by first | rfl | (simp; done) | (simp only [i64_w]; done) | (simp [i64_w]; done) | (simp [*]; done)), H', ⟨Nat.le_refl _⟩, HM⟩
  case round =>
    clear H'
    clear HM
    obtain ⟨x10_3, rfl, HA, HK4_, HM⟩ := hrel
    cases gk with
    | zero => exact absurd HA.out (by simp [impl_isFamily.l0])
    | succ k5_ =>
      have H := HA.out
      clear HA
      simp only [impl_isFamily.l0] at H
      by_cases c6_ : x10_3 < (l0_0.length : Int)
      · rw [if_pos c6_] at H
        have c6_b0 : decide (x10_3 < (l0_0.length : Int)) = true := decide_eq_true c6_
        clear c6_
        by_cases c7_ : 0 ≤ x10_3
        · rw [if_pos c7_] at H
          have c7_b0 : decide (0 ≤ x10_3) = true := decide_eq_true c7_
          clear c7_
          by_cases c8_ : x10_3 < (l0_0.length : Int)
          · rw [if_pos c8_] at H
            have c8_b0 : decide (x10_3 < (l0_0.length : Int)) = true := decide_eq_true c8_
            clear c8_
            replace H := Option.bind_eq_some_iff.mp H
            obtain ⟨t158, A9_0, H⟩ := H
            replace H : (if t158 = true then (if x10_3 > 0 then (if 0 ≤ (wrap64 (x10_3 - 1)) then (if (wrap64 (x10_3 - 1)) < (l0_0.length : Int) then (if (rd l0_0 x10_3) ≤ (rd l0_0 (wrap64 (x10_3 - 1))) then (some false) else (impl_isFamily.l1 k5_ x10_3 (rd l0_0 x10_3) l0_0 (l0_0.length : Int) x10_3 l0_0 (l0_0.length : Int) 0 l0_0)) else (none)) else (none)) else (impl_isFamily.l1 k5_ x10_3 (rd l0_0 x10_3) l0_0 (l0_0.length : Int) x10_3 l0_0 (l0_0.length : Int) 0 l0_0)) else (some false)) = some r := H
            have A9_ := Aside0.mk A9_0
            clear A9_0
            by_cases c10_ : t158 = true
            · subst c10_
              have H1 : (if x10_3 > 0 then (if 0 ≤ (wrap64 (x10_3 - 1)) then (if (wrap64 (x10_3 - 1)) < (l0_0.length : Int) then (if (rd l0_0 x10_3) ≤ (rd l0_0 (wrap64 (x10_3 - 1))) then (some false) else (impl_isFamily.l1 k5_ x10_3 (rd l0_0 x10_3) l0_0 (l0_0.length : Int) x10_3 l0_0 (l0_0.length : Int) 0 l0_0)) else (none)) else (none)) else (impl_isFamily.l1 k5_ x10_3 (rd l0_0 x10_3) l0_0 (l0_0.length : Int) x10_3 l0_0 (l0_0.length : Int) 0 l0_0)) = some r := by rw [if_pos rfl] at H; exact H
              clear H
              have H := H1
              clear H1
              by_cases c11_ : x10_3 > 0
              · rw [if_pos c11_] at H
                have c11_b0 : decide (0 < x10_3) = true := decide_eq_true c11_
                clear c11_
                obtain ⟨ji12_, hji12_⟩ : ∃ j_ : Int, (wrap64 (x10_3 - 1)) = j_ := ⟨_, rfl⟩
                replace H : (if 0 ≤ ji12_ then (if ji12_ < (l0_0.length : Int) then (if (rd l0_0 x10_3) ≤ (rd l0_0 ji12_) then (some false) else (impl_isFamily.l1 k5_ x10_3 (rd l0_0 x10_3) l0_0 (l0_0.length : Int) x10_3 l0_0 (l0_0.length : Int) 0 l0_0)) else (none)) else (none)) = some r := by first | (rw [hji12_] at H; exact H) | (simp only [hji12_] at H ⊢; exact H)
                have hji12_w : (IntKind.i64.wrap (x10_3 - 1)) = ji12_ := (i64_w _).trans hji12_
                (try rw [hji12_] at A9_)
                by_cases c13_ : 0 ≤ ji12_
                · rw [if_pos c13_] at H
                  have c13_b0 : decide (0 ≤ ji12_) = true := decide_eq_true c13_
                  clear c13_
                  by_cases c14_ : ji12_ < (l0_0.length : Int)
                  · rw [if_pos c14_] at H
                    have c14_b0 : decide (ji12_ < (l0_0.length : Int)) = true := decide_eq_true c14_
                    clear c14_
                    by_cases c15_ : (rd l0_0 x10_3) ≤ (rd l0_0 ji12_)
                    · rw [if_pos c15_] at H
                      have c15_b0 : decide ((rd l0_0 x10_3) ≤ (rd l0_0 ji12_)) = true := decide_eq_true c15_
                      clear c15_
                      obtain rfl := Option.some.inj H
                      have p157 : 0 ≤ (x10_3 : Int) := of_decide_eq_true (by first | (with_reducible assumption) | assumption)
                      have q157 : (x10_3 : Int) < (l0_0.length : Int) := of_decide_eq_true (by first | (with_reducible assumption) | assumption)
                      obtain ⟨ad157, e157, hx157⟩ := Kd.at_int HR0_0.out x10_3 p157 q157
                      cases e157
                      replace hx157 := (HM.out.below.cell (World.block_lt_of_cell? w _ hx157)).trans hx157
                      replace p157 := eq_true p157
                      replace q157 := eq_true q157
                      go_wp2_with (first | ((with_reducible refine gate_callee (f := 72) rfl ?_); (with_reducible refine gate_dst (N := 16) rfl ?_); refine goesL_ (some 16) rfl rfl Try.func72 (by kernel_rfl) rfl #[.int .i64 (rd l0_0 x10_3)] rfl (by (try simp only [List.map_toArray, List.map_cons, List.map_nil]); first | done | rfl | (simp only [List.length_drop, List.length_take]; rfl)) ?_; (with_reducible refine (impl_isSet.calls (rd l0_0 x10_3) true _  A9_.out).mono ?_); rintro e_ w16_ ⟨rfl, hd_⟩; refine ⟨_, rfl, ?_⟩; have hb := hd_.below; clear hd_; have n_ := Aside0.mk (HM.out.step hb); clear HM; have HM := n_; clear n_; clear hb; have hcz17_0 : w16_.cell? ⟨gb1, 0, none⟩ = some (.slice (some ad157) l0_0.length c0_0) := (blk_cell (HM.out.box 0 rfl) 0).trans rfl; have hfz17_0 := blk_frozen (HM.out.box 0 rfl) 0; have p159 : 0 ≤ (ji12_ : Int) := of_decide_eq_true (by first | (with_reducible assumption) | assumption); have q159 : (ji12_ : Int) < (l0_0.length : Int) := of_decide_eq_true (by first | (with_reducible assumption) | assumption); obtain ⟨ad159, e159, hx159⟩ := Kd.at_int HR0_0.out ji12_ p159 q159; obtain rfl : ad157 = ad159 := (by injection e159); replace hx159 := (HM.out.below.cell (World.block_lt_of_cell? w _ hx159)).trans hx159; replace p159 := eq_true p159; replace q159 := eq_true q159))
                      go_ret
                      exact ⟨by first | rfl | (simp; done) | (simp only [i64_w]; done) | (simp [i64_w]; done) | (simp only [← hji12_] <;> (first | rfl | (simp only [i64_w]; done) | simp)) | (simp [*]; done), HM.out.below⟩
                    · rw [if_neg c15_] at H
                      have c15_b0 : decide ((rd l0_0 x10_3) ≤ (rd l0_0 ji12_)) = false := decide_eq_false c15_
                      clear c15_
                      have H' := Aside0.mk H
                      clear H
                      have p157 : 0 ≤ (x10_3 : Int) := of_decide_eq_true (by first | (with_reducible assumption) | assumption)
                      have q157 : (x10_3 : Int) < (l0_0.length : Int) := of_decide_eq_true (by first | (with_reducible assumption) | assumption)
                      obtain ⟨ad157, e157, hx157⟩ := Kd.at_int HR0_0.out x10_3 p157 q157
                      cases e157
                      replace hx157 := (HM.out.below.cell (World.block_lt_of_cell? w _ hx157)).trans hx157
                      replace p157 := eq_true p157
                      replace q157 := eq_true q157
                      go_wp2_with (first | ((with_reducible refine gate_callee (f := 72) rfl ?_); (with_reducible refine gate_dst (N := 16) rfl ?_); refine goesL_ (some 16) rfl rfl Try.func72 (by kernel_rfl) rfl #[.int .i64 (rd l0_0 x10_3)] rfl (by (try simp only [List.map_toArray, List.map_cons, List.map_nil]); first | done | rfl | (simp only [List.length_drop, List.length_take]; rfl)) ?_; (with_reducible refine (impl_isSet.calls (rd l0_0 x10_3) true _  A9_.out).mono ?_); rintro e_ w18_ ⟨rfl, hd_⟩; refine ⟨_, rfl, ?_⟩; have hb := hd_.below; clear hd_; have n_ := Aside0.mk (HM.out.step hb); clear HM; have HM := n_; clear n_; clear hb; have hcz19_0 : w18_.cell? ⟨gb1, 0, none⟩ = some (.slice (some ad157) l0_0.length c0_0) := (blk_cell (HM.out.box 0 rfl) 0).trans rfl; have hfz19_0 := blk_frozen (HM.out.box 0 rfl) 0; have p159 : 0 ≤ (ji12_ : Int) := of_decide_eq_true (by first | (with_reducible assumption) | assumption); have q159 : (ji12_ : Int) < (l0_0.length : Int) := of_decide_eq_true (by first | (with_reducible assumption) | assumption); obtain ⟨ad159, e159, hx159⟩ := Kd.at_int HR0_0.out ji12_ p159 q159; obtain rfl : ad157 = ad159 := (by injection e159); replace hx159 := (HM.out.below.cell (World.block_lt_of_cell? w _ hx159)).trans hx159; replace p159 := eq_true p159; replace q159 := eq_true q159))
                      go_loopg [35] k5_ (fun kq v35 w' => ∃ (x35_20 : Int), v35 = .int .i64 x35_20 ∧ Aside0 (impl_isFamily.l1 kq x10_3 (rd l0_0 x10_3) l0_0 (l0_0.length : Int) x10_3 l0_0 (l0_0.length : Int) x35_20 l0_0 = some r) ∧ Aside0 (kq ≤ k5_) ∧ Aside0 (MS w w' [.box gb1 30 #[.slice (some ad157) l0_0.length c0_0]]))
                      case atStart => exact ⟨(0), (by first | rfl | (simp; done) | (simp only [i64_w]; done) | (simp [i64_w]; done) | (simp only [← hji12_] <;> (first | rfl | (simp only [i64_w]; done) | simp)) | (simp [*]; done)), H', ⟨Nat.le_refl _⟩, HM⟩
                      case round =>
                        clear H'
                        clear HM
                        obtain ⟨x35_20, rfl, HA, HK21_, HM⟩ := hrel
                        cases gk with
                        | zero => exact absurd HA.out (by simp [impl_isFamily.l1])
                        | succ k22_ =>
                          have H := HA.out
                          clear HA
                          simp only [impl_isFamily.l1] at H
                          by_cases c23_ : x35_20 < (l0_0.length : Int)
                          · rw [if_pos c23_] at H
                            have c23_b0 : decide (x35_20 < (l0_0.length : Int)) = true := decide_eq_true c23_
                            clear c23_
                            by_cases c24_ : 0 ≤ x35_20
                            · rw [if_pos c24_] at H
                              have c24_b0 : decide (0 ≤ x35_20) = true := decide_eq_true c24_
                              clear c24_
                              by_cases c25_ : x35_20 < (l0_0.length : Int)
                              · rw [if_pos c25_] at H
                                have c25_b0 : decide (x35_20 < (l0_0.length : Int)) = true := decide_eq_true c25_
                                clear c25_
                                by_cases c26_ : x35_20 = x10_3
                                · rw [if_pos c26_] at H
                                  have c26_b0 : (x35_20 == x10_3) = true := beq_iff_eq.mpr c26_
                                  have c26_b1 : (x35_20 != x10_3) = false := bne_eq_false_iff_eq.mpr c26_
                                  clear c26_
                                  have H' := Aside0.mk H
                                  clear H
                                  have p160 : 0 ≤ (x35_20 : Int) := of_decide_eq_true (by first | (with_reducible assumption) | assumption)
                                  have q160 : (x35_20 : Int) < (l0_0.length : Int) := of_decide_eq_true (by first | (with_reducible assumption) | assumption)
                                  obtain ⟨ad160, e160, hx160⟩ := Kd.at_int HR0_0.out x35_20 p160 q160
                                  obtain rfl : ad157 = ad160 := (by injection e160)
                                  replace hx160 := (HM.out.below.cell (World.block_lt_of_cell? w _ hx160)).trans hx160
                                  replace p160 := eq_true p160
                                  replace q160 := eq_true q160
                                  go_wp2
                                  go_roundg k22_
                                  case measure => have hHK4__ := HK4_.out; have hHK21__ := HK21_.out; omega
                                  case rel => exact ⟨(wrap64 (x35_20 + 1)), (by first | rfl | (simp; done) | (simp only [i64_w]; done) | (simp [i64_w]; done) | (simp [*]; done)), H', ⟨by have hHK4__ := HK4_.out; have hHK21__ := HK21_.out; omega⟩, HM⟩
                                · rw [if_neg c26_] at H
                                  have c26_b0 : (x35_20 == x10_3) = false := beq_eq_false_iff_ne.mpr c26_
                                  have c26_b1 : (x35_20 != x10_3) = true := bne_iff_ne.mpr c26_
                                  clear c26_
                                  by_cases c27_ : (Go.bits .and .i64 (rd l0_0 x35_20) (rd l0_0 x10_3)) = (rd l0_0 x35_20)
                                  · rw [if_pos c27_] at H
                                    have c27_b0 : ((Go.bits .and .i64 (rd l0_0 x35_20) (rd l0_0 x10_3)) == (rd l0_0 x35_20)) = true := beq_iff_eq.mpr c27_
                                    have c27_b1 : ((Go.bits .and .i64 (rd l0_0 x35_20) (rd l0_0 x10_3)) != (rd l0_0 x35_20)) = false := bne_eq_false_iff_eq.mpr c27_
                                    clear c27_
                                    obtain rfl := Option.some.inj H
                                    have p160 : 0 ≤ (x35_20 : Int) := of_decide_eq_true (by first | (with_reducible assumption) | assumption)
                                    have q160 : (x35_20 : Int) < (l0_0.length : Int) := of_decide_eq_true (by first | (with_reducible assumption) | assumption)
                                    obtain ⟨ad160, e160, hx160⟩ := Kd.at_int HR0_0.out x35_20 p160 q160
                                    obtain rfl : ad157 = ad160 := (by injection e160)
                                    replace hx160 := (HM.out.below.cell (World.block_lt_of_cell? w _ hx160)).trans hx160
                                    replace p160 := eq_true p160
                                    replace q160 := eq_true q160
                                    go_wp2
                                    go_ret
                                    exact ⟨by first | rfl | (simp; done) | (simp only [i64_w]; done) | (simp [i64_w]; done) | (simp [*]; done), HM.out.below⟩
                                  · rw [if_neg c27_] at H
                                    have c27_b0 : ((Go.bits .and .i64 (rd l0_0 x35_20) (rd l0_0 x10_3)) == (rd l0_0 x35_20)) = false := beq_eq_false_iff_ne.mpr c27_
                                    have c27_b1 : ((Go.bits .and .i64 (rd l0_0 x35_20) (rd l0_0 x10_3)) != (rd l0_0 x35_20)) = true := bne_iff_ne.mpr c27_
                                    clear c27_
                                    have H' := Aside0.mk H
                                    clear H
                                    have p160 : 0 ≤ (x35_20 : Int) := of_decide_eq_true (by first | (with_reducible assumption) | assumption)
                                    have q160 : (x35_20 : Int) < (l0_0.length : Int) := of_decide_eq_true (by first | (with_reducible assumption) | assumption)
                                    obtain ⟨ad160, e160, hx160⟩ := Kd.at_int HR0_0.out x35_20 p160 q160
                                    obtain rfl : ad157 = ad160 := (by injection e160)
                                    replace hx160 := (HM.out.below.cell (World.block_lt_of_cell? w _ hx160)).trans hx160
                                    replace p160 := eq_true p160
                                    replace q160 := eq_true q160
                                    go_wp2
                                    go_roundg k22_
                                    case measure => have hHK4__ := HK4_.out; have hHK21__ := HK21_.out; omega
                                    case rel => exact ⟨(wrap64 (x35_20 + 1)), (by first | rfl | (simp; done) | (simp only [i64_w]; done) | (simp [i64_w]; done) | (simp [*]; done)), H', ⟨by have hHK4__ := HK4_.out; have hHK21__ := HK21_.out; omega⟩, HM⟩
                              · rw [if_neg c25_] at H
                                have c25_b0 : decide (x35_20 < (l0_0.length : Int)) = false := decide_eq_false c25_
                                clear c25_
                                exact absurd H (by simp)
                            · rw [if_neg c24_] at H
                              have c24_b0 : decide (0 ≤ x35_20) = false := decide_eq_false c24_
                              clear c24_
                              exact absurd H (by simp)
                          · rw [if_neg c23_] at H
                            have c23_b0 : decide (x35_20 < (l0_0.length : Int)) = false := decide_eq_false c23_
                            clear c23_
                            have H' := Aside0.mk H
                            clear H
                            go_wp2
                            go_roundg k22_
                            case measure => have hHK4__ := HK4_.out; have hHK21__ := HK21_.out; omega
                            case rel => exact ⟨(wrap64 (x10_3 + 1)), (by first | rfl | (simp; done) | (simp only [i64_w]; done) | (simp [i64_w]; done) | (simp [*]; done)), H', ⟨by have hHK4__ := HK4_.out; have hHK21__ := HK21_.out; omega⟩, HM⟩
                  · rw [if_neg c14_] at H
                    have c14_b0 : decide (ji12_ < (l0_0.length : Int)) = false := decide_eq_false c14_
                    clear c14_
                    exact absurd H (by simp)
                · rw [if_neg c13_] at H
                  have c13_b0 : decide (0 ≤ ji12_) = false := decide_eq_false c13_
                  clear c13_
                  exact absurd H (by simp)
              · rw [if_neg c11_] at H
                have c11_b0 : decide (0 < x10_3) = false := decide_eq_false c11_
                clear c11_
                have H' := Aside0.mk H
                clear H
                have p157 : 0 ≤ (x10_3 : Int) := of_decide_eq_true (by first | (with_reducible assumption) | assumption)
                have q157 : (x10_3 : Int) < (l0_0.length : Int) := of_decide_eq_true (by first | (with_reducible assumption) | assumption)
                obtain ⟨ad157, e157, hx157⟩ := Kd.at_int HR0_0.out x10_3 p157 q157
                cases e157
                replace hx157 := (HM.out.below.cell (World.block_lt_of_cell? w _ hx157)).trans hx157
                replace p157 := eq_true p157
                replace q157 := eq_true q157
                go_wp2_with (first | ((with_reducible refine gate_callee (f := 72) rfl ?_); (with_reducible refine gate_dst (N := 16) rfl ?_); refine goesL_ (some 16) rfl rfl Try.func72 (by kernel_rfl) rfl #[.int .i64 (rd l0_0 x10_3)] rfl (by (try simp only [List.map_toArray, List.map_cons, List.map_nil]); first | done | rfl | (simp only [List.length_drop, List.length_take]; rfl)) ?_; (with_reducible refine (impl_isSet.calls (rd l0_0 x10_3) true _  A9_.out).mono ?_); rintro e_ w28_ ⟨rfl, hd_⟩; refine ⟨_, rfl, ?_⟩; have hb := hd_.below; clear hd_; have n_ := Aside0.mk (HM.out.step hb); clear HM; have HM := n_; clear n_; clear hb; have hcz29_0 : w28_.cell? ⟨gb1, 0, none⟩ = some (.slice (some ad157) l0_0.length c0_0) := (blk_cell (HM.out.box 0 rfl) 0).trans rfl; have hfz29_0 := blk_frozen (HM.out.box 0 rfl) 0))
                go_loopg [35] k5_ (fun kq v35 w' => ∃ (x35_30 : Int), v35 = .int .i64 x35_30 ∧ Aside0 (impl_isFamily.l1 kq x10_3 (rd l0_0 x10_3) l0_0 (l0_0.length : Int) x10_3 l0_0 (l0_0.length : Int) x35_30 l0_0 = some r) ∧ Aside0 (kq ≤ k5_) ∧ Aside0 (MS w w' [.box gb1 30 #[.slice (some ad157) l0_0.length c0_0]]))
                case atStart => exact ⟨(0), (by first | rfl | (simp; done) | (simp only [i64_w]; done) | (simp [i64_w]; done) | (simp [*]; done)), H', ⟨Nat.le_refl _⟩, HM⟩
                case round =>
                  clear H'
                  clear HM
                  obtain ⟨x35_30, rfl, HA, HK31_, HM⟩ := hrel
                  cases gk with
                  | zero => exact absurd HA.out (by simp [impl_isFamily.l1])
                  | succ k32_ =>
                    have H := HA.out
                    clear HA
                    simp only [impl_isFamily.l1] at H
                    by_cases c33_ : x35_30 < (l0_0.length : Int)
                    · rw [if_pos c33_] at H
                      have c33_b0 : decide (x35_30 < (l0_0.length : Int)) = true := decide_eq_true c33_
                      clear c33_
                      by_cases c34_ : 0 ≤ x35_30
                      · rw [if_pos c34_] at H
                        have c34_b0 : decide (0 ≤ x35_30) = true := decide_eq_true c34_
                        clear c34_
                        by_cases c35_ : x35_30 < (l0_0.length : Int)
                        · rw [if_pos c35_] at H
                          have c35_b0 : decide (x35_30 < (l0_0.length : Int)) = true := decide_eq_true c35_
                          clear c35_
                          by_cases c36_ : x35_30 = x10_3
                          · rw [if_pos c36_] at H
                            have c36_b0 : (x35_30 == x10_3) = true := beq_iff_eq.mpr c36_
                            have c36_b1 : (x35_30 != x10_3) = false := bne_eq_false_iff_eq.mpr c36_
                            clear c36_
                            have H' := Aside0.mk H
                            clear H
                            have p160 : 0 ≤ (x35_30 : Int) := of_decide_eq_true (by first | (with_reducible assumption) | assumption)
                            have q160 : (x35_30 : Int) < (l0_0.length : Int) := of_decide_eq_true (by first | (with_reducible assumption) | assumption)
                            obtain ⟨ad160, e160, hx160⟩ := Kd.at_int HR0_0.out x35_30 p160 q160
                            obtain rfl : ad157 = ad160 := (by injection e160)
                            replace hx160 := (HM.out.below.cell (World.block_lt_of_cell? w _ hx160)).trans hx160
                            replace p160 := eq_true p160
                            replace q160 := eq_true q160
                            go_wp2
                            go_roundg k32_
                            case measure => have hHK4__ := HK4_.out; have hHK31__ := HK31_.out; omega
                            case rel => exact ⟨(wrap64 (x35_30 + 1)), (by first | rfl | (simp; done) | (simp only [i64_w]; done) | (simp [i64_w]; done) | (simp [*]; done)), H', ⟨by have hHK4__ := HK4_.out; have hHK31__ := HK31_.out; omega⟩, HM⟩
                          · rw [if_neg c36_] at H
                            have c36_b0 : (x35_30 == x10_3) = false := beq_eq_false_iff_ne.mpr c36_
                            have c36_b1 : (x35_30 != x10_3) = true := bne_iff_ne.mpr c36_
                            clear c36_
                            by_cases c37_ : (Go.bits .and .i64 (rd l0_0 x35_30) (rd l0_0 x10_3)) = (rd l0_0 x35_30)
                            · rw [if_pos c37_] at H
                              have c37_b0 : ((Go.bits .and .i64 (rd l0_0 x35_30) (rd l0_0 x10_3)) == (rd l0_0 x35_30)) = true := beq_iff_eq.mpr c37_
                              have c37_b1 : ((Go.bits .and .i64 (rd l0_0 x35_30) (rd l0_0 x10_3)) != (rd l0_0 x35_30)) = false := bne_eq_false_iff_eq.mpr c37_
                              clear c37_
                              obtain rfl := Option.some.inj H
                              have p160 : 0 ≤ (x35_30 : Int) := of_decide_eq_true (by first | (with_reducible assumption) | assumption)
                              have q160 : (x35_30 : Int) < (l0_0.length : Int) := of_decide_eq_true (by first | (with_reducible assumption) | assumption)
                              obtain ⟨ad160, e160, hx160⟩ := Kd.at_int HR0_0.out x35_30 p160 q160
                              obtain rfl : ad157 = ad160 := (by injection e160)
                              replace hx160 := (HM.out.below.cell (World.block_lt_of_cell? w _ hx160)).trans hx160
                              replace p160 := eq_true p160
                              replace q160 := eq_true q160
                              go_wp2
                              go_ret
                              exact ⟨by first | rfl | (simp; done) | (simp only [i64_w]; done) | (simp [i64_w]; done) | (simp [*]; done), HM.out.below⟩
                            · rw [if_neg c37_] at H
                              have c37_b0 : ((Go.bits .and .i64 (rd l0_0 x35_30) (rd l0_0 x10_3)) == (rd l0_0 x35_30)) = false := beq_eq_false_iff_ne.mpr c37_
                              have c37_b1 : ((Go.bits .and .i64 (rd l0_0 x35_30) (rd l0_0 x10_3)) != (rd l0_0 x35_30)) = true := bne_iff_ne.mpr c37_
                              clear c37_
                              have H' := Aside0.mk H
                              clear H
                              have p160 : 0 ≤ (x35_30 : Int) := of_decide_eq_true (by first | (with_reducible assumption) | assumption)
                              have q160 : (x35_30 : Int) < (l0_0.length : Int) := of_decide_eq_true (by first | (with_reducible assumption) | assumption)
                              obtain ⟨ad160, e160, hx160⟩ := Kd.at_int HR0_0.out x35_30 p160 q160
                              obtain rfl : ad157 = ad160 := (by injection e160)
                              replace hx160 := (HM.out.below.cell (World.block_lt_of_cell? w _ hx160)).trans hx160
                              replace p160 := eq_true p160
                              replace q160 := eq_true q160
                              go_wp2
                              go_roundg k32_
                              case measure => have hHK4__ := HK4_.out; have hHK31__ := HK31_.out; omega
                              case rel => exact ⟨(wrap64 (x35_30 + 1)), (by first | rfl | (simp; done) | (simp only [i64_w]; done) | (simp [i64_w]; done) | (simp [*]; done)), H', ⟨by have hHK4__ := HK4_.out; have hHK31__ := HK31_.out; omega⟩, HM⟩
                        · rw [if_neg c35_] at H
                          have c35_b0 : decide (x35_30 < (l0_0.length : Int)) = false := decide_eq_false c35_
                          clear c35_
                          exact absurd H (by simp)
                      · rw [if_neg c34_] at H
                        have c34_b0 : decide (0 ≤ x35_30) = false := decide_eq_false c34_
                        clear c34_
                        exact absurd H (by simp)
                    · rw [if_neg c33_] at H
                      have c33_b0 : decide (x35_30 < (l0_0.length : Int)) = false := decide_eq_false c33_
                      clear c33_
                      have H' := Aside0.mk H
                      clear H
                      go_wp2
                      go_roundg k32_
                      case measure => have hHK4__ := HK4_.out; have hHK31__ := HK31_.out; omega
                      case rel => exact ⟨(wrap64 (x10_3 + 1)), (by first | rfl | (simp; done) | (simp only [i64_w]; done) | (simp [i64_w]; done) | (simp [*]; done)), H', ⟨by have hHK4__ := HK4_.out; have hHK31__ := HK31_.out; omega⟩, HM⟩
            · replace c10_ := Bool.eq_false_iff.mpr c10_
              subst c10_
              have H1 : (some false) = some r := by rw [if_neg (show ¬ (false = true) by decide)] at H; exact H
              clear H
              have H := H1
              clear H1
              obtain rfl := Option.some.inj H
              have p157 : 0 ≤ (x10_3 : Int) := of_decide_eq_true (by first | (with_reducible assumption) | assumption)
              have q157 : (x10_3 : Int) < (l0_0.length : Int) := of_decide_eq_true (by first | (with_reducible assumption) | assumption)
              obtain ⟨ad157, e157, hx157⟩ := Kd.at_int HR0_0.out x10_3 p157 q157
              cases e157
              replace hx157 := (HM.out.below.cell (World.block_lt_of_cell? w _ hx157)).trans hx157
              replace p157 := eq_true p157
              replace q157 := eq_true q157
              go_wp2_with (first | ((with_reducible refine gate_callee (f := 72) rfl ?_); (with_reducible refine gate_dst (N := 16) rfl ?_); refine goesL_ (some 16) rfl rfl Try.func72 (by kernel_rfl) rfl #[.int .i64 (rd l0_0 x10_3)] rfl (by (try simp only [List.map_toArray, List.map_cons, List.map_nil]); first | done | rfl | (simp only [List.length_drop, List.length_take]; rfl)) ?_; (with_reducible refine (impl_isSet.calls (rd l0_0 x10_3) false _  A9_.out).mono ?_); rintro e_ w38_ ⟨rfl, hd_⟩; refine ⟨_, rfl, ?_⟩; have hb := hd_.below; clear hd_; have n_ := Aside0.mk (HM.out.step hb); clear HM; have HM := n_; clear n_; clear hb))
              go_ret
              exact ⟨by first | rfl | (simp; done) | (simp only [i64_w]; done) | (simp [i64_w]; done) | (simp [*]; done), HM.out.below⟩
          · rw [if_neg c8_] at H
            have c8_b0 : decide (x10_3 < (l0_0.length : Int)) = false := decide_eq_false c8_
            clear c8_
            exact absurd H (by simp)
        · rw [if_neg c7_] at H
          have c7_b0 : decide (0 ≤ x10_3) = false := decide_eq_false c7_
          clear c7_
          exact absurd H (by simp)
      · rw [if_neg c6_] at H
        have c6_b0 : decide (x10_3 < (l0_0.length : Int)) = false := decide_eq_false c6_
        clear c6_
        obtain rfl := Option.some.inj H
        go_wp2
        go_ret
        exact ⟨by first | rfl | (simp; done) | (simp only [i64_w]; done) | (simp [i64_w]; done) | (simp [*]; done), HM.out.below⟩

/-! ### impl_Family_has_1: function 91 -/
def impl_Family_has_1.f (a0 : Int) (a1 : Int) : Option (Bool) := some ((Go.bits .and .i64 a0 a1) == a0)
set_option maxHeartbeats 8000000 in
set_option maxRecDepth 100000 in
theorem impl_Family_has_1.calls (a0 : Int) (gb1 : Nat) (a1 : Int) (r : Bool) (w : World) (hq1 : w.heap[gb1]? = some (.cells #[.int .i64 a1] 3 (0, 0))) (h : impl_Family_has_1.f a0 a1 = some r) :
    Calls Try.prog 91 #[.int .i64 a0, .pointer (some ⟨gb1, 0, none⟩)] w fun e w' => e = .returned (.bool r) ∧ Drawn0 w w' := by
  have HQ1 := Aside0.mk hq1
  clear hq1
  have HM := Aside0.mk (MS.start w)
  have HD := Aside0.mk (Drawn0.refl w)
  have H : (some ((Go.bits .and .i64 a0 a1) == a0)) = some r := h
  clear h
  obtain rfl := Option.some.inj H
  have hcz1_0 : w.cell? ⟨gb1, 0, none⟩ = some (.int .i64 a1) := (blk_cell (blk_below HQ1.out HM.out.below) 0).trans rfl
  have hfz1_0 := blk_frozen (blk_below HQ1.out HM.out.below) 0
  go_enter Try.func91, Try.ntmps91
  go_wp2
  go_ret
  exact ⟨by first | rfl | (simp; done) | (simp only [i64_w]; done) | (simp [i64_w]; done) | (simp [*]; done), HD.out⟩

/-! ### impl_Family_has: function 74 -/
def impl_Family_has.f (k : Nat) (l0_0 : List Int) (a1 : Int) : Option (Bool) := (slices_ContainsFunc_int_int.f k l0_0 (fun x_ => impl_Family_has_1.f x_ a1)).bind fun t162 => (some t162)
set_option maxHeartbeats 8000000 in
set_option maxRecDepth 100000 in
theorem impl_Family_has.calls (k : Nat) (A0_0 : Option Addr) (c0_0 : Nat) (l0_0 : List Int) (a1 : Int) (r : Bool) (w : World) (hr0_0 : Kd.C (Kd.int .i64) w A0_0 l0_0.length l0_0) (hc0_0 : l0_0.length ≤ c0_0) (h : impl_Family_has.f k l0_0 a1 = some r) :
    Calls Try.prog 74 #[.agg #[.slice A0_0 l0_0.length c0_0], .int .i64 a1] w fun e w' => e = .returned (.bool r) ∧ Below w.heap.size w w' := by
  have HR0_0 := Aside0.mk hr0_0
  have HC0_0 := Aside0.mk hc0_0
  clear hr0_0 hc0_0
  have hu22 := Try.underlying22
  have hu30 := Try.underlying30
  have HM := Aside0.mk (MS.start w)
  have H : ((slices_ContainsFunc_int_int.f k l0_0 (fun x_ => impl_Family_has_1.f x_ a1)).bind fun t162 => (some t162)) = some r := h
  clear h
  replace H := Option.bind_eq_some_iff.mp H
  obtain ⟨t162, A1_0, H⟩ := H
  replace H : (some t162) = some r := H
  have A1_ := Aside0.mk A1_0
  clear A1_0
  obtain rfl := Option.some.inj H
  go_enter Try.func74, Try.ntmps74
  go_wp2_with (first | ((with_reducible refine gate_dst (N := 2) rfl ?_); refine box_event ?hg (N := 2) ?hd (cs := #[.slice A0_0 l0_0.length c0_0]) (t := 30) ?hr ?_; (case hd => rfl); (case hg => rfl); (case hr => first | (go_simp; done) | (go_simp; rfl)); intro gb1 hg w2_ hbox hb; have n_ := Aside0.mk (HM.out.addBox hb hbox hg); clear HM; have HM := n_; clear n_; clear hb hbox hg) | ((with_reducible refine gate_dst (N := 3) rfl ?_); refine box_event ?hg (N := 3) ?hd (cs := #[.int .i64 a1]) (t := 3) ?hr ?_; (case hd => rfl); (case hg => rfl); (case hr => first | (go_simp; done) | (go_simp; rfl)); intro gb2 hg w3_ hbox hb; have n_ := Aside0.mk (HM.out.addBox hb hbox hg); clear HM; have HM := n_; clear n_; clear hb hbox hg; have hcz4_0 : w3_.cell? ⟨gb1, 0, none⟩ = some (.slice A0_0 l0_0.length c0_0) := (blk_cell (HM.out.box 1 rfl) 0).trans rfl; have hfz4_0 := blk_frozen (HM.out.box 1 rfl) 0; have fv161 := Aside0.mk (show FnB Try.prog w3_ (.func (.func 91) #[] #[.pointer (some ⟨gb2, 0, none⟩)]) (fun x_ => impl_Family_has_1.f x_ a1) from FnB.mk Try.func91 rfl rfl (fun W_ hW_ x_ r_ hr_ => (show Calls Try.prog 91 #[.int .i64 x_, .pointer (some ⟨gb2, 0, none⟩)] W_ _ from drawn_calls (impl_Family_has_1.calls x_ _ a1 r_ W_ (blk_below (HM.out.box 0 rfl) hW_) hr_))))) | ((with_reducible refine gate_callee (f := 63) rfl ?_); (with_reducible refine gate_dst (N := 8) rfl ?_); refine goesL_ (some 8) rfl rfl Try.func63 (by kernel_rfl) rfl #[.slice A0_0 l0_0.length c0_0, .func (.func 91) #[] #[.pointer (some ⟨gb2, 0, none⟩)]] rfl (by (try simp only [List.map_toArray, List.map_cons, List.map_nil]); first | done | rfl | (simp only [List.length_drop, List.length_take]; rfl)) ?_; (with_reducible refine (slices_ContainsFunc_int_int.calls k _ _ l0_0 _ (fun x_ => impl_Family_has_1.f x_ a1) t162 _ ?sd0 ?sd1 ?sd2 A1_.out).mono ?_); (case sd0 => exact (Kd.C_below HR0_0.out HM.out.below)); (case sd1 => exact HC0_0.out); (case sd2 => exact fv161.out); rintro e_ w5_ ⟨rfl, hb⟩; refine ⟨_, rfl, ?_⟩; have n_ := Aside0.mk (HM.out.step hb); clear HM; have HM := n_; clear n_; clear hb))
  go_ret
  exact ⟨by first | rfl | (simp; done) | (simp only [i64_w]; done) | (simp [i64_w]; done) | (simp [*]; done), HM.out.below⟩

/-! ### impl_tableOf: function 73 -/
def impl_tableOf.l0 : Nat → (Int → Option Bool) → (Int) → (List Bool) → Option (List Bool)
  | 0, _, _, _ => none
  | k + 1, x0, x6, m2 => if x6 < 64 then ((x0 x6).bind fun t163 => (if 0 ≤ x6 then (impl_tableOf.l0 k x0 (wrap64 (x6 + 1)) (m2.set (x6 : Int).toNat t163)) else (none))) else (some m2)
def impl_tableOf.f (k : Nat) (g0 : Int → Option Bool) : Option (List Bool) := impl_tableOf.l0 k g0 0 (List.replicate 64 false)
set_option maxHeartbeats 8000000 in
set_option maxRecDepth 100000 in
theorem impl_tableOf.calls (k : Nat) (F0 : Value) (g0 : Int → Option Bool) (r : List Bool) (w : World) (hf0 : FnB Try.prog w F0 g0) (h : impl_tableOf.f k g0 = some r) :
    Calls Try.prog 73 #[F0] w fun e w' => e = .returned (.agg (bcs r)) ∧ r.length = 64 ∧ Below w.heap.size w w' := by
  have HF0 := Aside0.mk hf0
  clear hf0
  have hu48 := Try.underlying48
  have HM := Aside0.mk (MS.start w)
  have H : (impl_tableOf.l0 k g0 0 (List.replicate 64 false)) = some r := h
  clear h
  have H' := Aside0.mk H
  clear H
  go_enter Try.func73, Try.ntmps73
  go_wp2_with (first | ((with_reducible refine gate_dst (N := 2) rfl ?_); refine box_event ?hg (N := 2) ?hd (cs := (bcs (List.replicate 64 false))) (t := 48) ?hr ?_; (case hd => rfl); (case hg => rfl); (case hr => first | (go_simp; done) | (go_simp; rfl)); intro gb1 hg w1_ hbox hb; have n_ := Aside0.mk (HM.out.addBox hb hbox hg); clear HM; have HM := n_; clear n_; clear hb hbox hg) | ((with_reducible refine gate_dst (N := 5) rfl ?_); refine build_zero ?hg (N := 5) ?hd (cs := (bcs (List.replicate 64 false))) ?hr ?_; (case hd => rfl); (case hg => rfl); (case hr => first | (go_simp; done) | (go_simp; rfl))) | ((with_reducible refine gate_dst (N := 3) rfl ?_); refine box_event ?hg (N := 3) ?hd (cs := (bcs (List.replicate 64 false))) (t := 48) ?hr ?_; (case hd => rfl); (case hg => rfl); (case hr => first | (go_simp; done) | (go_simp; rfl)); intro gb2 hg w2_ hbox hb; have n_ := Aside0.mk (HM.out.addBox hb hbox hg); clear HM; have HM := n_; clear n_; clear hb hbox hg) | ((with_reducible refine gate_store (t := 48) (p := 3) rfl ?_); refine wpList_store_row rfl _ _ _ rfl gb2 (bcs (List.replicate 64 false)) rfl rfl 48 (bcs (List.replicate 64 false)) (HM.out.box 0 rfl) (by rw [bcs_size, (List.length_replicate)]; kernel_rfl) ((bcs_size _).trans (((List.length_replicate)).trans ((show _ = 64 from (List.length_replicate)).symm.trans (bcs_size _).symm))) (bcs_one _) ?_; generalize hw : World.setRow _ _ _ = w3_; have n_ : Aside0 (MS w w3_ [.box gb2 48 (bcs (List.replicate 64 false)), .box gb1 48 (bcs (List.replicate 64 false))]) := ⟨by rw [← hw]; exact HM.out.setRow 0 rfl _⟩; clear HM hw; have HM := n_; clear n_))
  go_loopg [6] k (fun kq v6 w' => ∃ (x6_4 : Int) (m2_4 : List Bool), v6 = .int .i64 x6_4 ∧ Aside0 (impl_tableOf.l0 kq g0 x6_4 m2_4 = some r) ∧ Aside0 (kq ≤ k) ∧ Aside0 (m2_4.length = 64) ∧ Aside0 (MS w w' [.box gb2 48 (bcs m2_4), .box gb1 48 (bcs (List.replicate 64 false))]))
  case atStart => exact ⟨(0), ((List.replicate 64 false)), (by first | rfl | (simp; done) | (simp only [i64_w]; done) | (simp [i64_w]; done) | (simp [*]; done)), H', ⟨Nat.le_refl _⟩, ⟨(List.length_replicate)⟩, HM⟩
  case round =>
    clear H'
    clear HM
    obtain ⟨x6_4, m2_4, rfl, HA, HK5_, HLm2_4, HM⟩ := hrel
    cases gk with
    | zero => exact absurd HA.out (by simp [impl_tableOf.l0])
    | succ k6_ =>
      have H := HA.out
      clear HA
      simp only [impl_tableOf.l0] at H
      by_cases c7_ : x6_4 < 64
      · rw [if_pos c7_] at H
        have c7_b0 : decide (x6_4 < 64) = true := decide_eq_true c7_
        clear c7_
        replace H := Option.bind_eq_some_iff.mp H
        obtain ⟨t163, A8_0, H⟩ := H
        replace H : (if 0 ≤ x6_4 then (impl_tableOf.l0 k6_ g0 (wrap64 (x6_4 + 1)) (m2_4.set (x6_4 : Int).toNat t163)) else (none)) = some r := H
        have A8_ := Aside0.mk A8_0
        clear A8_0
        by_cases c9_ : 0 ≤ x6_4
        · rw [if_pos c9_] at H
          have c9_b0 : decide (0 ≤ x6_4) = true := decide_eq_true c9_
          clear c9_
          obtain ⟨y164, hy164⟩ : ∃ y_, y_ = (m2_4.set (x6_4 : Int).toNat t163) := ⟨_, rfl⟩
          replace H : (impl_tableOf.l0 k6_ g0 (wrap64 (x6_4 + 1)) y164) = some r := by first | (rw [hy164]; with_reducible exact H) | (have H2_ := (Option.bind_some _ _).symm.trans H; rw [hy164]; with_reducible exact H2_) | (have H2_ := (Option.bind_some _ _).symm.trans H; with_reducible exact H2_) | with_reducible exact H | (rw [hy164]; exact H) | exact H
          have Ny164 := Aside0.mk hy164
          clear hy164
          have H' := Aside0.mk H
          clear H
          go_wp2_with (first | ((with_reducible refine gate_dst (N := 12) rfl ?_); refine goesB (some 12) rfl rfl (V := F0) (g := g0) (x := x6_4) (r := t163) rfl rfl rfl (FnB.below HF0.out HM.out.below) A8_.out ?_; intro w10_ hb; have n_ := Aside0.mk (HM.out.step hb); clear HM; have HM := n_; clear n_; clear hb; have p165 : 0 ≤ (x6_4 : Int) := of_decide_eq_true (by first | (with_reducible assumption) | assumption); have q165 : (x6_4 : Int) < 64 := of_decide_eq_true (by first | (with_reducible assumption) | assumption); have hx165 := bcell (HM.out.box 0 rfl) x6_4 p165 (by have := HLm2_4.out; omega); have hf165 := blk_frozen (HM.out.box 0 rfl) (x6_4 : Int).toNat; replace p165 := eq_true p165; replace q165 := eq_true q165) | ((with_reducible refine gate_store (t := 4) (p := 13) rfl ?_); refine store_event (t := 4) (p := 13) (v := ?vow11_) (w1 := (w10_.setCell ⟨gb2, (x6_4 : Int).toNat, none⟩ (.bool t163))) ?hg ?ho ?hn ?hr ?_; (case ho => rfl); (case hg => rfl); (case hn => rfl); (case hr => first | (go_simp; done) | (go_simp; rfl)); intro w11_ hw; have n_ : Aside0 (MS w w11_ [.box gb2 48 (bcs y164), .box gb1 48 (bcs (List.replicate 64 false))]) := ⟨by rw [hw]; exact HM.out.setBox 0 rfl _ _ (by rw [bcs_set, ← Ny164.out])⟩; clear HM hw; have HM := n_; clear n_))
          go_roundg k6_
          case measure => have hHK5__ := HK5_.out; omega
          case rel => exact ⟨(wrap64 (x6_4 + 1)), (y164), (by first | rfl | (simp; done) | (simp only [i64_w]; done) | (simp [i64_w]; done) | (simp [*]; done)), H', ⟨by have hHK5__ := HK5_.out; omega⟩, ⟨(show y164.length = 64 from by rw [Ny164.out, List.length_set]; exact HLm2_4.out)⟩, HM⟩
        · rw [if_neg c9_] at H
          have c9_b0 : decide (0 ≤ x6_4) = false := decide_eq_false c9_
          clear c9_
          exact absurd H (by simp)
      · rw [if_neg c7_] at H
        have c7_b0 : decide (x6_4 < 64) = false := decide_eq_false c7_
        clear c7_
        obtain rfl := Option.some.inj H
        go_wp2_with (first | ((with_reducible refine gate_dst (N := 15) rfl ?_); refine wpList_load_row rfl _ _ rfl gb2 rfl 48 (bcs m2_4) (0, 0) _ (HM.out.box 0 rfl) Try.underlying48 rfl (by rw [bcs_size, HLm2_4.out]; kernel_rfl) ?_) | ((with_reducible refine gate_store (t := 48) (p := 2) rfl ?_); refine wpList_store_row rfl _ _ _ rfl gb1 (bcs m2_4) rfl rfl 48 (bcs (List.replicate 64 false)) (HM.out.box 1 rfl) (by rw [bcs_size, HLm2_4.out]; kernel_rfl) ((bcs_size _).trans (((List.length_replicate)).trans ((show _ = 64 from HLm2_4.out).symm.trans (bcs_size _).symm))) (bcs_one _) ?_; generalize hw : World.setRow _ _ _ = w12_; have n_ : Aside0 (MS w w12_ [.box gb2 48 (bcs m2_4), .box gb1 48 (bcs m2_4)]) := ⟨by rw [← hw]; exact HM.out.setRow 1 rfl _⟩; clear HM hw; have HM := n_; clear n_))
        refine bodyPost_ret (results_cell_row rfl _ _ gb1 48 (bcs m2_4) (0, 0) _ rfl (HM.out.box 1 rfl) Try.underlying48 rfl (by rw [bcs_size, HLm2_4.out]; kernel_rfl)) rfl ?_
        exact ⟨by first | rfl | (simp; done) | (simp only [i64_w]; done) | (simp [i64_w]; done) | (simp [*]; done), HLm2_4.out, HM.out.below⟩

/-! ### impl_Family_table: function 46 -/
def impl_Family_table.f (k : Nat) (l0_0 : List Int) : Option (List Bool) := (impl_tableOf.f k (fun x_ => impl_Family_has.f k l0_0 x_)).bind fun t167 => (some t167)
set_option maxHeartbeats 8000000 in
set_option maxRecDepth 100000 in
theorem impl_Family_table.calls (k : Nat) (A0_0 : Option Addr) (c0_0 : Nat) (l0_0 : List Int) (r : List Bool) (w : World) (hr0_0 : Kd.C (Kd.int .i64) w A0_0 l0_0.length l0_0) (hc0_0 : l0_0.length ≤ c0_0) (h : impl_Family_table.f k l0_0 = some r) :
    Calls Try.prog 46 #[.agg #[.slice A0_0 l0_0.length c0_0]] w fun e w' => e = .returned (.agg (bcs r)) ∧ r.length = 64 ∧ Below w.heap.size w w' := by
  have HR0_0 := Aside0.mk hr0_0
  have HC0_0 := Aside0.mk hc0_0
  clear hr0_0 hc0_0
  have hu30 := Try.underlying30
  have hu48 := Try.underlying48
  have HM := Aside0.mk (MS.start w)
  have H : ((impl_tableOf.f k (fun x_ => impl_Family_has.f k l0_0 x_)).bind fun t167 => (some t167)) = some r := h
  clear h
  replace H := Option.bind_eq_some_iff.mp H
  obtain ⟨t167, A1_0, H⟩ := H
  replace H : (some t167) = some r := H
  have A1_ := Aside0.mk A1_0
  clear A1_0
  obtain rfl := Option.some.inj H
  go_enter Try.func46, Try.ntmps46
  go_wp2_with (first | ((with_reducible refine gate_dst (N := 1) rfl ?_); refine box_event ?hg (N := 1) ?hd (cs := #[.slice A0_0 l0_0.length c0_0]) (t := 30) ?hr ?_; (case hd => rfl); (case hg => rfl); (case hr => first | (go_simp; done) | (go_simp; rfl)); intro gb1 hg w2_ hbox hb; have n_ := Aside0.mk (HM.out.addBox hb hbox hg); clear HM; have HM := n_; clear n_; clear hb hbox hg) | ((with_reducible refine gate_dst (N := 2) rfl ?_); refine box_event ?hg (N := 2) ?hd (cs := (bcs (List.replicate 64 false))) (t := 48) ?hr ?_; (case hd => rfl); (case hg => rfl); (case hr => first | (go_simp; done) | (go_simp; rfl)); intro gb2 hg w3_ hbox hb; have n_ := Aside0.mk (HM.out.addBox hb hbox hg); clear HM; have HM := n_; clear n_; clear hb hbox hg; have hcz4_0 : w3_.cell? ⟨gb1, 0, none⟩ = some (.slice A0_0 l0_0.length c0_0) := (blk_cell (HM.out.box 1 rfl) 0).trans rfl; have hfz4_0 := blk_frozen (HM.out.box 1 rfl) 0; have fv166 := Aside0.mk (show FnB Try.prog w3_ (.func (.func 74) #[.agg #[.slice A0_0 l0_0.length c0_0]] #[]) (fun x_ => impl_Family_has.f k l0_0 x_) from FnB.mk Try.func74 rfl rfl (fun W_ hW_ x_ r_ hr_ => (show Calls Try.prog 74 #[.agg #[.slice A0_0 l0_0.length c0_0], .int .i64 x_] W_ _ from impl_Family_has.calls k _ _ l0_0 x_ r_ W_ (Kd.C_below HR0_0.out (below_step HM.out.below hW_)) HC0_0.out hr_)))) | ((with_reducible refine gate_callee (f := 73) rfl ?_); (with_reducible refine gate_dst (N := 5) rfl ?_); refine goesL_ (some 5) rfl rfl Try.func73 (by kernel_rfl) rfl #[.func (.func 74) #[.agg #[.slice A0_0 l0_0.length c0_0]] #[]] rfl (by (try simp only [List.map_toArray, List.map_cons, List.map_nil]); first | done | rfl | (simp only [List.length_drop, List.length_take]; rfl)) ?_; (with_reducible refine (impl_tableOf.calls k _ (fun x_ => impl_Family_has.f k l0_0 x_) t167 _ ?sd0 A1_.out).mono ?_); (case sd0 => exact fv166.out); rintro e_ w5_ ⟨rfl, ho0_, hb⟩; refine ⟨_, rfl, ?_⟩; have HLt167 := Aside0.mk ho0_; have n_ := Aside0.mk (HM.out.step hb); clear HM; have HM := n_; clear n_; clear hb ho0_) | ((with_reducible refine gate_store (t := 48) (p := 2) rfl ?_); refine wpList_store_row rfl _ _ _ rfl gb2 (bcs t167) rfl rfl 48 (bcs (List.replicate 64 false)) (HM.out.box 0 rfl) (by rw [bcs_size, HLt167.out]; kernel_rfl) ((bcs_size _).trans (((List.length_replicate)).trans ((show _ = 64 from HLt167.out).symm.trans (bcs_size _).symm))) (bcs_one _) ?_; generalize hw : World.setRow _ _ _ = w6_; have n_ : Aside0 (MS w w6_ [.box gb2 48 (bcs t167), .box gb1 30 #[.slice A0_0 l0_0.length c0_0]]) := ⟨by rw [← hw]; exact HM.out.setRow 0 rfl _⟩; clear HM hw; have HM := n_; clear n_))
  refine bodyPost_ret (results_cell_row rfl _ _ gb2 48 (bcs t167) (0, 0) _ rfl (HM.out.box 0 rfl) Try.underlying48 rfl (by rw [bcs_size, HLt167.out]; kernel_rfl)) rfl ?_
  exact ⟨by first | rfl | (simp; done) | (simp only [i64_w]; done) | (simp [i64_w]; done) | (simp [*]; done), HLt167.out, HM.out.below⟩

/-! ### impl_IsWordFor: function 23 -/
def impl_IsWordFor.f (k : Nat) (l0 : List Int) (l1_0 : List Int) : Option (Bool × Bool) := (impl_isWord.f k l0).bind fun t168 => (if t168 = true then ((impl_isFamily.f k l1_0).bind fun t169 => (if t169 = true then ((impl_fallTable.f k l0).bind fun t170 => ((impl_Family_table.f k l1_0).bind fun t171 => (some ((t170 == t171), true)))) else (some (false, false)))) else (some (false, false)))
set_option maxHeartbeats 8000000 in
set_option maxRecDepth 100000 in
theorem impl_IsWordFor.calls (k : Nat) (A0 : Option Addr) (c0 : Nat) (l0 : List Int) (A1_0 : Option Addr) (c1_0 : Nat) (l1_0 : List Int) (r1 : Bool) (r2 : Bool) (w : World) (hr0 : Kd.C (Kd.int .i64) w A0 l0.length l0) (hc0 : l0.length ≤ c0) (hr1_0 : Kd.C (Kd.int .i64) w A1_0 l1_0.length l1_0) (hc1_0 : l1_0.length ≤ c1_0) (h : impl_IsWordFor.f k l0 l1_0 = some (r1, r2)) :
    Calls Try.prog 23 #[.slice A0 l0.length c0, .agg #[.slice A1_0 l1_0.length c1_0]] w fun e w' => e = .returned (.tuple #[.bool r1, .bool r2]) ∧ Below w.heap.size w w' := by
  have HR0 := Aside0.mk hr0
  have HC0 := Aside0.mk hc0
  clear hr0 hc0
  have HR1_0 := Aside0.mk hr1_0
  have HC1_0 := Aside0.mk hc1_0
  clear hr1_0 hc1_0
  have hu30 := Try.underlying30
  have HM := Aside0.mk (MS.start w)
  have H : ((impl_isWord.f k l0).bind fun t168 => (if t168 = true then ((impl_isFamily.f k l1_0).bind fun t169 => (if t169 = true then ((impl_fallTable.f k l0).bind fun t170 => ((impl_Family_table.f k l1_0).bind fun t171 => (some ((t170 == t171), true)))) else (some (false, false)))) else (some (false, false)))) = some (r1, r2) := h
  clear h
  replace H := Option.bind_eq_some_iff.mp H
  obtain ⟨t168, A1_0, H⟩ := H
  replace H : (if t168 = true then ((impl_isFamily.f k l1_0).bind fun t169 => (if t169 = true then ((impl_fallTable.f k l0).bind fun t170 => ((impl_Family_table.f k l1_0).bind fun t171 => (some ((t170 == t171), true)))) else (some (false, false)))) else (some (false, false))) = some (r1, r2) := H
  have A1_ := Aside0.mk A1_0
  clear A1_0
  by_cases c2_ : t168 = true
  · subst c2_
    have H1 : ((impl_isFamily.f k l1_0).bind fun t169 => (if t169 = true then ((impl_fallTable.f k l0).bind fun t170 => ((impl_Family_table.f k l1_0).bind fun t171 => (some ((t170 == t171), true)))) else (some (false, false)))) = some (r1, r2) := by rw [if_pos rfl] at H; exact H
    clear H
    have H := H1
    clear H1
    replace H := Option.bind_eq_some_iff.mp H
    obtain ⟨t169, A3_0, H⟩ := H
    replace H : (if t169 = true then ((impl_fallTable.f k l0).bind fun t170 => ((impl_Family_table.f k l1_0).bind fun t171 => (some ((t170 == t171), true)))) else (some (false, false))) = some (r1, r2) := H
    have A3_ := Aside0.mk A3_0
    clear A3_0
    by_cases c4_ : t169 = true
    · subst c4_
      have H1 : ((impl_fallTable.f k l0).bind fun t170 => ((impl_Family_table.f k l1_0).bind fun t171 => (some ((t170 == t171), true)))) = some (r1, r2) := by rw [if_pos rfl] at H; exact H
      clear H
      have H := H1
      clear H1
      replace H := Option.bind_eq_some_iff.mp H
      obtain ⟨t170, A5_0, H⟩ := H
      replace H : ((impl_Family_table.f k l1_0).bind fun t171 => (some ((t170 == t171), true))) = some (r1, r2) := H
      have A5_ := Aside0.mk A5_0
      clear A5_0
      replace H := Option.bind_eq_some_iff.mp H
      obtain ⟨t171, A6_0, H⟩ := H
      replace H : (some ((t170 == t171), true)) = some (r1, r2) := H
      have A6_ := Aside0.mk A6_0
      clear A6_0
      have H' := Aside0.mk H
      clear H
      go_enter Try.func23, Try.ntmps23
      go_wp2_with (first | ((with_reducible refine gate_dst (N := 3) rfl ?_); refine box_event ?hg (N := 3) ?hd (cs := #[.slice A1_0 l1_0.length c1_0]) (t := 30) ?hr ?_; (case hd => rfl); (case hg => rfl); (case hr => first | (go_simp; done) | (go_simp; rfl)); intro gb1 hg w7_ hbox hb; have n_ := Aside0.mk (HM.out.addBox hb hbox hg); clear HM; have HM := n_; clear n_; clear hb hbox hg) | ((with_reducible refine gate_callee (f := 35) rfl ?_); (with_reducible refine gate_dst (N := 7) rfl ?_); refine goesL_ (some 7) rfl rfl Try.func35 (by kernel_rfl) rfl #[.slice A0 l0.length c0] rfl (by (try simp only [List.map_toArray, List.map_cons, List.map_nil]); first | done | rfl | (simp only [List.length_drop, List.length_take]; rfl)) ?_; (with_reducible refine (impl_isWord.calls k _ _ l0 true _ ?sd0 ?sd1 A1_.out).mono ?_); (case sd0 => exact (Kd.C_below HR0.out HM.out.below)); (case sd1 => exact HC0.out); rintro e_ w8_ ⟨rfl, hb⟩; refine ⟨_, rfl, ?_⟩; have n_ := Aside0.mk (HM.out.step hb); clear HM; have HM := n_; clear n_; clear hb; have hcz9_0 : w8_.cell? ⟨gb1, 0, none⟩ = some (.slice A1_0 l1_0.length c1_0) := (blk_cell (HM.out.box 0 rfl) 0).trans rfl; have hfz9_0 := blk_frozen (HM.out.box 0 rfl) 0) | (go_at_call 45; (refine calls_of_args (args' := #[.agg #[.slice A1_0 l1_0.length c1_0]]) (by first | done | rfl) ?_); (with_reducible refine (impl_isFamily.calls k _ _ l1_0 true _ ?sd0 ?sd1 A3_.out).mono ?_); (case sd0 => exact (Kd.C_below HR1_0.out HM.out.below)); (case sd1 => exact HC1_0.out); rintro e_ w10_ ⟨rfl, hb⟩; have n_ := Aside0.mk (HM.out.step hb); clear HM; have HM := n_; clear n_; clear hb))
      have n_ := Aside0.mk (HM.out.step (below_drew1 (Below.refl w10_.heap.size w10_)))
      clear HM
      have HM := n_
      clear n_
      refine start_ (n := 7) (S := fun w' => (w'.cell? ⟨gb1, 0, none⟩ = some (.slice A1_0 l1_0.length c1_0))) (ds := []) #[false, false, false, false, false, false, false] (by kernel_rfl) rfl rfl ((blk_cell (HM.out.box 0 rfl) 0).trans rfl) (fun hHeld => ?_)
      generalize w10_.drew = w11_ at HM hHeld ⊢
      refine pure_ (i := 0) (N := some 14) (v := ?_) (a' := ?_) #[true, false, false, false, false, false, false] rfl rfl (by kernel_rfl) (fun _ _ _ h => h) (Or.inl ⟨by rfl, ?_⟩) ?_ ?_
      rotate_left
      · intro w'
        go_simp
        first | with_reducible rfl | (simp [Instr.field, asAgg, Go.part, run_underlying hu30]; rfl) | rfl
      rotate_left
      · simp only [Act.put, List.setIfInBounds_toArray, List.set_cons_zero, List.set_cons_succ, i64_w, i32_w]
        rfl
      refine take_ (i := 2) (N := some 16) (v := ?_) (a' := ?_) #[true, false, true, false, false, false, false] rfl rfl (by kernel_rfl) (fun _ _ _ h => h) (Or.inl ⟨by rfl, ?_⟩) hHeld ?_ ?_
      rotate_left
      · intro w' s0
        go_simp
        first | with_reducible rfl | (simp [Instr.field, asAgg, Go.part, run_underlying hu30]; rfl) | rfl
      rotate_left
      · simp only [Act.put, List.setIfInBounds_toArray, List.set_cons_zero, List.set_cons_succ, i64_w, i32_w]
        rfl
      refine one_ (i := 1) (N := some 15) #[true, true, true, false, false, false, false] rfl rfl (by kernel_rfl) (by decide) (fun K hK => ?_)
      refine goes_ Try.func37 (by kernel_rfl) rfl #[.slice A0 l0.length c0] (by rfl) rfl rfl (by (try simp only [List.map_toArray, List.map_cons, List.map_nil]); first | done | rfl | (simp only [List.length_drop, List.length_take]; rfl)) ?_
      with_reducible refine (impl_fallTable.calls k _ _ l0 t170 _ ?sd0 ?sd1 A5_.out).mono ?_
      (case sd0 => exact (Kd.C_below HR0.out HM.out.below))
      (case sd1 => exact HC0.out)
      rintro e_ w12_ ⟨rfl, ho0_, hb⟩
      refine ⟨_, rfl, ?_⟩
      have HLt170 := Aside0.mk ho0_
      have n_ := Aside0.mk (HM.out.step hb)
      clear HM
      have HM := n_
      clear n_
      clear hb ho0_
      refine hK.out _ _ ((blk_cell (HM.out.box 0 rfl) 0).trans rfl) (fun hHeld => ?_)
      clear hK K
      refine norm_ (a' := ?_) ?_ ?_
      rotate_left
      · show Act.put _ (some 15) _ = _
        simp only [Act.put, List.setIfInBounds_toArray, List.set_cons_zero, List.set_cons_succ, i64_w, i32_w]
        rfl
      refine one_ (i := 3) (N := some 17) #[true, true, true, true, false, false, false] rfl rfl (by kernel_rfl) (by decide) (fun K hK => ?_)
      refine goes_ Try.func46 (by kernel_rfl) rfl #[.agg #[.slice A1_0 l1_0.length c1_0]] (by rfl) rfl rfl (by (try simp only [List.map_toArray, List.map_cons, List.map_nil]); first | done | rfl | (simp only [List.length_drop, List.length_take]; rfl)) ?_
      with_reducible refine (impl_Family_table.calls k _ _ l1_0 t171 _ ?sd0 ?sd1 A6_.out).mono ?_
      (case sd0 => exact (Kd.C_below HR1_0.out HM.out.below))
      (case sd1 => exact HC1_0.out)
      rintro e_ w13_ ⟨rfl, ho0_, hb⟩
      refine ⟨_, rfl, ?_⟩
      have HLt171 := Aside0.mk ho0_
      have n_ := Aside0.mk (HM.out.step hb)
      clear HM
      have HM := n_
      clear n_
      clear hb ho0_
      refine hK.out _ _ ((blk_cell (HM.out.box 0 rfl) 0).trans rfl) (fun hHeld => ?_)
      clear hK K
      refine norm_ (a' := ?_) ?_ ?_
      rotate_left
      · show Act.put _ (some 17) _ = _
        simp only [Act.put, List.setIfInBounds_toArray, List.set_cons_zero, List.set_cons_succ, i64_w, i32_w]
        rfl
      refine pure_ (i := 4) (N := some 18) (v := ?_) (a' := ?_) #[true, true, true, true, true, false, false] rfl rfl (by kernel_rfl) (fun _ _ _ h => h) (Or.inl ⟨by rfl, ?_⟩) ?_ ?_
      rotate_left
      · intro w'
        refine eqlB_run (t := 48) (e := 4) (x := .tmp 15) (y := .tmp 17) (rt := 48) (xs := t170) (ys := t171) ?hoe14_ ?hxe14_ ?hye14_ (by kernel_rfl) Try.underlying48 (by kernel_rfl) Try.underlying4 (by kernel_rfl) (by kernel_rfl) HLt170.out HLt171.out
        (case hoe14_ => rfl)
        (case hxe14_ => rfl)
        (case hye14_ => rfl)
      rotate_left
      · simp only [Act.put, List.setIfInBounds_toArray, List.set_cons_zero, List.set_cons_succ, i64_w, i32_w]
        rfl
      refine pure_ (i := 5) (N := some 4) (v := ?_) (a' := ?_) #[true, true, true, true, true, true, false] rfl rfl (by kernel_rfl) (fun _ _ _ h => h) (Or.inl ⟨by rfl, ?_⟩) ?_ ?_
      rotate_left
      · intro w'
        go_simp
        first | with_reducible rfl | (simp [Instr.field, asAgg, Go.part, run_underlying hu30]; rfl) | rfl
      rotate_left
      · simp only [Act.put, List.setIfInBounds_toArray, List.set_cons_zero, List.set_cons_succ, i64_w, i32_w]
        rfl
      refine pure_ (i := 6) (N := some 5) (v := ?_) (a' := ?_) #[true, true, true, true, true, true, true] rfl rfl (by kernel_rfl) (fun _ _ _ h => h) (Or.inl ⟨by rfl, ?_⟩) ?_ ?_
      rotate_left
      · intro w'
        go_simp
        first | with_reducible rfl | (simp [Instr.field, asAgg, Go.part, run_underlying hu30]; rfl) | rfl
      rotate_left
      · simp only [Act.put, List.setIfInBounds_toArray, List.set_cons_zero, List.set_cons_succ, i64_w, i32_w]
        rfl
      refine done_ (by kernel_rfl) ?_
      have H := H'.out
      clear H'
      simp only [Option.some.injEq, Prod.mk.injEq] at H
      obtain ⟨rfl, rfl⟩ := H
      go_wp2
      go_ret2
      exact ⟨by first | rfl | (simp; done) | (simp only [i64_w]; done) | (simp [i64_w]; done) | (simp [*]; done), HM.out.below⟩
    · replace c4_ := Bool.eq_false_iff.mpr c4_
      subst c4_
      have H1 : (some (false, false)) = some (r1, r2) := by rw [if_neg (show ¬ (false = true) by decide)] at H; exact H
      clear H
      have H := H1
      clear H1
      simp only [Option.some.injEq, Prod.mk.injEq] at H
      obtain ⟨rfl, rfl⟩ := H
      go_enter Try.func23, Try.ntmps23
      go_wp2_with (first | ((with_reducible refine gate_dst (N := 3) rfl ?_); refine box_event ?hg (N := 3) ?hd (cs := #[.slice A1_0 l1_0.length c1_0]) (t := 30) ?hr ?_; (case hd => rfl); (case hg => rfl); (case hr => first | (go_simp; done) | (go_simp; rfl)); intro gb1 hg w15_ hbox hb; have n_ := Aside0.mk (HM.out.addBox hb hbox hg); clear HM; have HM := n_; clear n_; clear hb hbox hg) | ((with_reducible refine gate_callee (f := 35) rfl ?_); (with_reducible refine gate_dst (N := 7) rfl ?_); refine goesL_ (some 7) rfl rfl Try.func35 (by kernel_rfl) rfl #[.slice A0 l0.length c0] rfl (by (try simp only [List.map_toArray, List.map_cons, List.map_nil]); first | done | rfl | (simp only [List.length_drop, List.length_take]; rfl)) ?_; (with_reducible refine (impl_isWord.calls k _ _ l0 true _ ?sd0 ?sd1 A1_.out).mono ?_); (case sd0 => exact (Kd.C_below HR0.out HM.out.below)); (case sd1 => exact HC0.out); rintro e_ w16_ ⟨rfl, hb⟩; refine ⟨_, rfl, ?_⟩; have n_ := Aside0.mk (HM.out.step hb); clear HM; have HM := n_; clear n_; clear hb; have hcz17_0 : w16_.cell? ⟨gb1, 0, none⟩ = some (.slice A1_0 l1_0.length c1_0) := (blk_cell (HM.out.box 0 rfl) 0).trans rfl; have hfz17_0 := blk_frozen (HM.out.box 0 rfl) 0) | (go_at_call 45; (refine calls_of_args (args' := #[.agg #[.slice A1_0 l1_0.length c1_0]]) (by first | done | rfl) ?_); (with_reducible refine (impl_isFamily.calls k _ _ l1_0 false _ ?sd0 ?sd1 A3_.out).mono ?_); (case sd0 => exact (Kd.C_below HR1_0.out HM.out.below)); (case sd1 => exact HC1_0.out); rintro e_ w18_ ⟨rfl, hb⟩; have n_ := Aside0.mk (HM.out.step hb); clear HM; have HM := n_; clear n_; clear hb))
      go_ret2
      exact ⟨by first | rfl | (simp; done) | (simp only [i64_w]; done) | (simp [i64_w]; done) | (simp [*]; done), HM.out.below⟩
  · replace c2_ := Bool.eq_false_iff.mpr c2_
    subst c2_
    have H1 : (some (false, false)) = some (r1, r2) := by rw [if_neg (show ¬ (false = true) by decide)] at H; exact H
    clear H
    have H := H1
    clear H1
    simp only [Option.some.injEq, Prod.mk.injEq] at H
    obtain ⟨rfl, rfl⟩ := H
    go_enter Try.func23, Try.ntmps23
    go_wp2_with (first | ((with_reducible refine gate_dst (N := 3) rfl ?_); refine box_event ?hg (N := 3) ?hd (cs := #[.slice A1_0 l1_0.length c1_0]) (t := 30) ?hr ?_; (case hd => rfl); (case hg => rfl); (case hr => first | (go_simp; done) | (go_simp; rfl)); intro gb1 hg w19_ hbox hb; have n_ := Aside0.mk (HM.out.addBox hb hbox hg); clear HM; have HM := n_; clear n_; clear hb hbox hg) | ((with_reducible refine gate_callee (f := 35) rfl ?_); (with_reducible refine gate_dst (N := 7) rfl ?_); refine goesL_ (some 7) rfl rfl Try.func35 (by kernel_rfl) rfl #[.slice A0 l0.length c0] rfl (by (try simp only [List.map_toArray, List.map_cons, List.map_nil]); first | done | rfl | (simp only [List.length_drop, List.length_take]; rfl)) ?_; (with_reducible refine (impl_isWord.calls k _ _ l0 false _ ?sd0 ?sd1 A1_.out).mono ?_); (case sd0 => exact (Kd.C_below HR0.out HM.out.below)); (case sd1 => exact HC0.out); rintro e_ w20_ ⟨rfl, hb⟩; refine ⟨_, rfl, ?_⟩; have n_ := Aside0.mk (HM.out.step hb); clear HM; have HM := n_; clear n_; clear hb))
    go_ret2
    exact ⟨by first | rfl | (simp; done) | (simp only [i64_w]; done) | (simp [i64_w]; done) | (simp [*]; done), HM.out.below⟩

end Go.Proofs.Ytlbhfbanbdahdaa.Q
