-- Written by a program of this session's own (wip/wgen.py): what functions of the program compute, and that they do.
import Derived.Below
import Derived.Deep.Draws
import Derived.Deep.AppendLies
import Derived.Maps.AppendAt
import Derived.OwnWalk
import Derived.Laws.BytesArg
import Derived.Laws.MakeOwn
import Derived.Laws.OwnMore
import Derived.Deep.OwnRows
import Derived.Tactics
import Derived.Lib.ConvBytes
import Derived.Laws.Slices
import Derived.WalkKit
import Derived.KernelRfl
import Derived.RowKit3
import Derived.Deep.LoopGhost
import Derived.Deep.QuietTactic
import Derived.BigQuiet
import Derived.WideLaws
import Derived.Deep.DeepCutAuto
import Derived.Deep.CutBlock
import Derived.Deep.RegionHeld3
import Derived.Laws.Rows
import Derived.Lib.AppendStr
import Derived.ArgAppend
import Derived.Laws.IdiomCopy
import Derived.OrdersHeld
import Derived.Laws.BitsLemmas
import Derived.RowKit
import Derived.Test.YtncdgimmalifjaaHM
import Derived.Test.YtncdgimmalifjaaRG
import Derived.Test.YtncdgimmalifjaaProg
import Derived.Test.YtncdgimmalifjaaKL1
import Derived.Test.YtncdgimmalifjaaQA
namespace Go.Proofs.Ytncdgimmalifjaa.Q
open Go.RowKit Go.Proofs.YtncdgimmalifjaaW.PrintWords Go.Proofs.YtncdgimmalifjaaW.PrintLast Go.Proofs.YtncdgimmalifjaaW.PrintMore Go.Proofs.YtncdgimmalifjaaM Go.Proofs.Ytncdgimmalifjaa.KL
attribute [local go_sem] max2_int min2_int max_two min_two max_three min_three max_four min_four
set_option linter.unusedVariables false
set_option linter.unusedSimpArgs false

/-! ### spec_l5Family: function 50 -/
mutual
def spec_l5Family.l0 : Nat → (Int) → (List Int) → Option (Bool)
  | 0, _, _ => none
  | k + 1, x3, m1_0 => if x3 < (m1_0.length : Int) then (if 0 ≤ x3 then ((spec_l3Set.f (rd m1_0 x3)).bind fun t137 => (if t137 = true then (if x3 > 0 then (if 0 ≤ (wrap64 (x3 - 1)) then (if (wrap64 (x3 - 1)) < (m1_0.length : Int) then (if (rd m1_0 x3) ≤ (rd m1_0 (wrap64 (x3 - 1))) then (some false) else (spec_l5Family.l1 k x3 0 m1_0)) else (none)) else (none)) else (spec_l5Family.l1 k x3 0 m1_0)) else (some false))) else (none)) else (some true)
def spec_l5Family.l1 : Nat → (Int) → (Int) → (List Int) → Option (Bool)
  | 0, _, _, _ => none
  | k + 1, x3, x4, m1_0 => if x4 < x3 then (if 0 ≤ x4 then (if x4 < (m1_0.length : Int) then (if 0 ≤ x3 then (if x3 < (m1_0.length : Int) then ((spec_l5Part.f (rd m1_0 x4) (rd m1_0 x3)).bind fun t142 => (if t142 = true then (some false) else (spec_l5Family.l1 k x3 (wrap64 (x4 + 1)) m1_0))) else (none)) else (none)) else (none)) else (none)) else (spec_l5Family.l0 k (wrap64 (x3 + 1)) m1_0)
end
def spec_l5Family.f (k : Nat) (l0_0 : List Int) : Option (Bool) := spec_l5Family.l0 k 0 l0_0
set_option maxHeartbeats 8000000 in
set_option maxRecDepth 100000 in
theorem spec_l5Family.calls (k : Nat) (A0_0 : Option Addr) (c0_0 : Nat) (l0_0 : List Int) (r : Bool) (w : World) (hr0_0 : Kd.C (Kd.int .i64) w A0_0 l0_0.length l0_0) (hc0_0 : l0_0.length ≤ c0_0) (h : spec_l5Family.f k l0_0 = some r) :
    Calls Try.prog 50 #[.agg #[.slice A0_0 l0_0.length c0_0]] w fun e w' => e = .returned (.bool r) ∧ Below w.heap.size w w' := by
  have HR0_0 := Aside0.mk hr0_0
  have HC0_0 := Aside0.mk hc0_0
  clear hr0_0 hc0_0
  have hu22 := Try.underlying22
  have hu24 := Try.underlying24
  have HM := Aside0.mk (MS.start w)
  have H : (spec_l5Family.l0 k 0 l0_0) = some r := h
  clear h
  have H' := Aside0.mk H
  clear H
  go_enter Try.func50, Try.ntmps50
  go_wp2_with (first | ((with_reducible refine gate_dst (N := 1) rfl ?_); refine box_event ?hg (N := 1) ?hd (cs := #[.slice A0_0 l0_0.length c0_0]) (t := 24) ?hr ?_; (case hd => rfl); (case hg => rfl); (case hr => first | (go_simp; done) | (go_simp; rfl)); intro gb1 hg w1_ hbox hb; have n_ := Aside0.mk (HM.out.addBox hb hbox hg); clear HM; have HM := n_; clear n_; clear hb hbox hg))
  go_loopg [3] k (fun kq v3 w' => ∃ (x3_2 : Int), v3 = .int .i64 x3_2 ∧ Aside0 (spec_l5Family.l0 kq x3_2 l0_0 = some r) ∧ Aside0 (kq ≤ k) ∧ Aside0 (MS w w' [.box gb1 24 #[.slice A0_0 l0_0.length c0_0]]))
  case atStart => exact ⟨(0), (by first | rfl | (simp; done) | (simp [*]; done)), H', ⟨Nat.le_refl _⟩, HM⟩
  case round =>
    clear H'
    clear HM
    obtain ⟨x3_2, rfl, HA, HK3_, HM⟩ := hrel
    cases gk with
    | zero => exact absurd HA.out (by simp [spec_l5Family.l0])
    | succ k4_ =>
      have H := HA.out
      clear HA
      simp only [spec_l5Family.l0] at H
      by_cases c5_ : x3_2 < (l0_0.length : Int)
      · rw [if_pos c5_] at H
        have c5_b0 : decide (x3_2 < (l0_0.length : Int)) = true := decide_eq_true c5_
        clear c5_
        by_cases c6_ : 0 ≤ x3_2
        · rw [if_pos c6_] at H
          have c6_b0 : decide (0 ≤ x3_2) = true := decide_eq_true c6_
          clear c6_
          replace H := Option.bind_eq_some_iff.mp H
          obtain ⟨t137, A7_0, H⟩ := H
          replace H : (if t137 = true then (if x3_2 > 0 then (if 0 ≤ (wrap64 (x3_2 - 1)) then (if (wrap64 (x3_2 - 1)) < (l0_0.length : Int) then (if (rd l0_0 x3_2) ≤ (rd l0_0 (wrap64 (x3_2 - 1))) then (some false) else (spec_l5Family.l1 k4_ x3_2 0 l0_0)) else (none)) else (none)) else (spec_l5Family.l1 k4_ x3_2 0 l0_0)) else (some false)) = some r := H
          have A7_ := Aside0.mk A7_0
          clear A7_0
          by_cases c8_ : t137 = true
          · subst c8_
            have H1 : (if x3_2 > 0 then (if 0 ≤ (wrap64 (x3_2 - 1)) then (if (wrap64 (x3_2 - 1)) < (l0_0.length : Int) then (if (rd l0_0 x3_2) ≤ (rd l0_0 (wrap64 (x3_2 - 1))) then (some false) else (spec_l5Family.l1 k4_ x3_2 0 l0_0)) else (none)) else (none)) else (spec_l5Family.l1 k4_ x3_2 0 l0_0)) = some r := by rw [if_pos rfl] at H; exact H
            clear H
            have H := H1
            clear H1
            by_cases c9_ : x3_2 > 0
            · rw [if_pos c9_] at H
              have c9_b0 : decide (0 < x3_2) = true := decide_eq_true c9_
              clear c9_
              obtain ⟨ji10_, hji10_⟩ : ∃ j_ : Int, (wrap64 (x3_2 - 1)) = j_ := ⟨_, rfl⟩
              replace H : (if 0 ≤ ji10_ then (if ji10_ < (l0_0.length : Int) then (if (rd l0_0 x3_2) ≤ (rd l0_0 ji10_) then (some false) else (spec_l5Family.l1 k4_ x3_2 0 l0_0)) else (none)) else (none)) = some r := by first | (rw [hji10_] at H; exact H) | (simp only [hji10_] at H ⊢; exact H)
              have hji10_w : (IntKind.i64.wrap (x3_2 - 1)) = ji10_ := (i64_w _).trans hji10_
              (try rw [hji10_] at A7_)
              by_cases c11_ : 0 ≤ ji10_
              · rw [if_pos c11_] at H
                have c11_b0 : decide (0 ≤ ji10_) = true := decide_eq_true c11_
                clear c11_
                by_cases c12_ : ji10_ < (l0_0.length : Int)
                · rw [if_pos c12_] at H
                  have c12_b0 : decide (ji10_ < (l0_0.length : Int)) = true := decide_eq_true c12_
                  clear c12_
                  by_cases c13_ : (rd l0_0 x3_2) ≤ (rd l0_0 ji10_)
                  · rw [if_pos c13_] at H
                    have c13_b0 : decide ((rd l0_0 x3_2) ≤ (rd l0_0 ji10_)) = true := decide_eq_true c13_
                    clear c13_
                    obtain rfl := Option.some.inj H
                    have hcz14_0 : wr.cell? ⟨gb1, 0, none⟩ = some (.slice A0_0 l0_0.length c0_0) := (blk_cell (HM.out.box 0 rfl) 0).trans rfl
                    have hfz14_0 := blk_frozen (HM.out.box 0 rfl) 0
                    go_wp2
                    have p136 : 0 ≤ (x3_2 : Int) := of_decide_eq_true (by first | (with_reducible assumption) | assumption)
                    have q136 : (x3_2 : Int) < (l0_0.length : Int) := of_decide_eq_true (by first | (with_reducible assumption) | assumption)
                    obtain ⟨ad136, e136, hx136⟩ := Kd.at_int HR0_0.out x3_2 p136 q136
                    cases e136
                    replace hx136 := (HM.out.below.cell (World.block_lt_of_cell? w _ hx136)).trans hx136
                    replace p136 := eq_true p136
                    replace q136 := eq_true q136
                    have p138 : 0 ≤ (x3_2 : Int) := of_decide_eq_true (by first | (with_reducible assumption) | assumption)
                    have q138 : (x3_2 : Int) < (l0_0.length : Int) := of_decide_eq_true (by first | (with_reducible assumption) | assumption)
                    obtain ⟨ad138, e138, hx138⟩ := Kd.at_int HR0_0.out x3_2 p138 q138
                    obtain rfl : ad136 = ad138 := (by injection e138)
                    replace hx138 := (HM.out.below.cell (World.block_lt_of_cell? w _ hx138)).trans hx138
                    replace p138 := eq_true p138
                    replace q138 := eq_true q138
                    have p139 : 0 ≤ (ji10_ : Int) := of_decide_eq_true (by first | (with_reducible assumption) | assumption)
                    have q139 : (ji10_ : Int) < (l0_0.length : Int) := of_decide_eq_true (by first | (with_reducible assumption) | assumption)
                    obtain ⟨ad139, e139, hx139⟩ := Kd.at_int HR0_0.out ji10_ p139 q139
                    obtain rfl : ad136 = ad139 := (by injection e139)
                    replace hx139 := (HM.out.below.cell (World.block_lt_of_cell? w _ hx139)).trans hx139
                    replace p139 := eq_true p139
                    replace q139 := eq_true q139
                    go_quiet ((go_at_call 35; refine calls_quiet (v := .bool true) ?_; exact (spec_l3Set.calls (rd l0_0 x3_2) true _  A7_.out)))
                    generalize hw : World.drewN _ _ = w16_
                    have n_ := Aside0.mk (HM.out.step (show Below _ _ w16_ from hw ▸ pw_below_drewN (Below.refl _ _) _))
                    clear HM hw
                    have HM := n_
                    clear n_
                    go_wp2
                    go_ret
                    exact ⟨by first | rfl | (simp; done) | (simp only [← hji10_] <;> (first | rfl | simp)) | (simp [*]; done), HM.out.below⟩
                  · rw [if_neg c13_] at H
                    have c13_b0 : decide ((rd l0_0 x3_2) ≤ (rd l0_0 ji10_)) = false := decide_eq_false c13_
                    clear c13_
                    have H' := Aside0.mk H
                    clear H
                    have hcz17_0 : wr.cell? ⟨gb1, 0, none⟩ = some (.slice A0_0 l0_0.length c0_0) := (blk_cell (HM.out.box 0 rfl) 0).trans rfl
                    have hfz17_0 := blk_frozen (HM.out.box 0 rfl) 0
                    go_wp2
                    have p136 : 0 ≤ (x3_2 : Int) := of_decide_eq_true (by first | (with_reducible assumption) | assumption)
                    have q136 : (x3_2 : Int) < (l0_0.length : Int) := of_decide_eq_true (by first | (with_reducible assumption) | assumption)
                    obtain ⟨ad136, e136, hx136⟩ := Kd.at_int HR0_0.out x3_2 p136 q136
                    cases e136
                    replace hx136 := (HM.out.below.cell (World.block_lt_of_cell? w _ hx136)).trans hx136
                    replace p136 := eq_true p136
                    replace q136 := eq_true q136
                    have p138 : 0 ≤ (x3_2 : Int) := of_decide_eq_true (by first | (with_reducible assumption) | assumption)
                    have q138 : (x3_2 : Int) < (l0_0.length : Int) := of_decide_eq_true (by first | (with_reducible assumption) | assumption)
                    obtain ⟨ad138, e138, hx138⟩ := Kd.at_int HR0_0.out x3_2 p138 q138
                    obtain rfl : ad136 = ad138 := (by injection e138)
                    replace hx138 := (HM.out.below.cell (World.block_lt_of_cell? w _ hx138)).trans hx138
                    replace p138 := eq_true p138
                    replace q138 := eq_true q138
                    have p139 : 0 ≤ (ji10_ : Int) := of_decide_eq_true (by first | (with_reducible assumption) | assumption)
                    have q139 : (ji10_ : Int) < (l0_0.length : Int) := of_decide_eq_true (by first | (with_reducible assumption) | assumption)
                    obtain ⟨ad139, e139, hx139⟩ := Kd.at_int HR0_0.out ji10_ p139 q139
                    obtain rfl : ad136 = ad139 := (by injection e139)
                    replace hx139 := (HM.out.below.cell (World.block_lt_of_cell? w _ hx139)).trans hx139
                    replace p139 := eq_true p139
                    replace q139 := eq_true q139
                    go_quiet ((go_at_call 35; refine calls_quiet (v := .bool true) ?_; exact (spec_l3Set.calls (rd l0_0 x3_2) true _  A7_.out)))
                    generalize hw : World.drewN _ _ = w19_
                    have n_ := Aside0.mk (HM.out.step (show Below _ _ w19_ from hw ▸ pw_below_drewN (Below.refl _ _) _))
                    clear HM hw
                    have HM := n_
                    clear n_
                    go_wp2
                    go_loopg [4] k4_ (fun kq v4 w' => ∃ (x4_20 : Int), v4 = .int .i64 x4_20 ∧ Aside0 (spec_l5Family.l1 kq x3_2 x4_20 l0_0 = some r) ∧ Aside0 (kq ≤ k4_) ∧ Aside0 (MS w w' [.box gb1 24 #[.slice (some ad136) l0_0.length c0_0]]))
                    case atStart => exact ⟨(0), (by first | rfl | (simp; done) | (simp only [← hji10_] <;> (first | rfl | simp)) | (simp [*]; done)), H', ⟨Nat.le_refl _⟩, HM⟩
                    case round =>
                      clear H'
                      clear HM
                      obtain ⟨x4_20, rfl, HA, HK21_, HM⟩ := hrel
                      cases gk with
                      | zero => exact absurd HA.out (by simp [spec_l5Family.l1])
                      | succ k22_ =>
                        have H := HA.out
                        clear HA
                        simp only [spec_l5Family.l1] at H
                        by_cases c23_ : x4_20 < x3_2
                        · rw [if_pos c23_] at H
                          have c23_b0 : decide (x4_20 < x3_2) = true := decide_eq_true c23_
                          clear c23_
                          by_cases c24_ : 0 ≤ x4_20
                          · rw [if_pos c24_] at H
                            have c24_b0 : decide (0 ≤ x4_20) = true := decide_eq_true c24_
                            clear c24_
                            by_cases c25_ : x4_20 < (l0_0.length : Int)
                            · rw [if_pos c25_] at H
                              have c25_b0 : decide (x4_20 < (l0_0.length : Int)) = true := decide_eq_true c25_
                              clear c25_
                              by_cases c26_ : 0 ≤ x3_2
                              · rw [if_pos c26_] at H
                                have c26_b0 : decide (0 ≤ x3_2) = true := decide_eq_true c26_
                                clear c26_
                                by_cases c27_ : x3_2 < (l0_0.length : Int)
                                · rw [if_pos c27_] at H
                                  have c27_b0 : decide (x3_2 < (l0_0.length : Int)) = true := decide_eq_true c27_
                                  clear c27_
                                  replace H := Option.bind_eq_some_iff.mp H
                                  obtain ⟨t142, A28_0, H⟩ := H
                                  replace H : (if t142 = true then (some false) else (spec_l5Family.l1 k22_ x3_2 (wrap64 (x4_20 + 1)) l0_0)) = some r := H
                                  have A28_ := Aside0.mk A28_0
                                  clear A28_0
                                  by_cases c29_ : t142 = true
                                  · subst c29_
                                    have H1 : (some false) = some r := by rw [if_pos rfl] at H; exact H
                                    clear H
                                    have H := H1
                                    clear H1
                                    obtain rfl := Option.some.inj H
                                    go_wp2
                                    have hcz30_0 : wr.cell? ⟨gb1, 0, none⟩ = some (.slice (some ad136) l0_0.length c0_0) := (blk_cell (HM.out.box 0 rfl) 0).trans rfl
                                    have hfz30_0 := blk_frozen (HM.out.box 0 rfl) 0
                                    have p140 : 0 ≤ (x4_20 : Int) := of_decide_eq_true (by first | (with_reducible assumption) | assumption)
                                    have q140 : (x4_20 : Int) < (l0_0.length : Int) := of_decide_eq_true (by first | (with_reducible assumption) | assumption)
                                    obtain ⟨ad140, e140, hx140⟩ := Kd.at_int HR0_0.out x4_20 p140 q140
                                    obtain rfl : ad136 = ad140 := (by injection e140)
                                    replace hx140 := (HM.out.below.cell (World.block_lt_of_cell? w _ hx140)).trans hx140
                                    replace p140 := eq_true p140
                                    replace q140 := eq_true q140
                                    have p141 : 0 ≤ (x3_2 : Int) := of_decide_eq_true (by first | (with_reducible assumption) | assumption)
                                    have q141 : (x3_2 : Int) < (l0_0.length : Int) := of_decide_eq_true (by first | (with_reducible assumption) | assumption)
                                    obtain ⟨ad141, e141, hx141⟩ := Kd.at_int HR0_0.out x3_2 p141 q141
                                    obtain rfl : ad136 = ad141 := (by injection e141)
                                    replace hx141 := (HM.out.below.cell (World.block_lt_of_cell? w _ hx141)).trans hx141
                                    replace p141 := eq_true p141
                                    replace q141 := eq_true q141
                                    go_quiet ((go_at_call 72; refine calls_quiet (v := .bool true) ?_; exact (spec_l5Part.calls (rd l0_0 x4_20) (rd l0_0 x3_2) true _  A28_.out)))
                                    generalize hw : World.drewN _ _ = w32_
                                    have n_ := Aside0.mk (HM.out.step (show Below _ _ w32_ from hw ▸ pw_below_drewN (Below.refl _ _) _))
                                    clear HM hw
                                    have HM := n_
                                    clear n_
                                    go_wp2
                                    go_ret
                                    exact ⟨by first | rfl | (simp; done) | (simp [*]; done), HM.out.below⟩
                                  · replace c29_ := Bool.eq_false_iff.mpr c29_
                                    subst c29_
                                    have H1 : (spec_l5Family.l1 k22_ x3_2 (wrap64 (x4_20 + 1)) l0_0) = some r := by rw [if_neg (show ¬ (false = true) by decide)] at H; exact H
                                    clear H
                                    have H := H1
                                    clear H1
                                    have H' := Aside0.mk H
                                    clear H
                                    go_wp2
                                    have hcz33_0 : wr.cell? ⟨gb1, 0, none⟩ = some (.slice (some ad136) l0_0.length c0_0) := (blk_cell (HM.out.box 0 rfl) 0).trans rfl
                                    have hfz33_0 := blk_frozen (HM.out.box 0 rfl) 0
                                    have p140 : 0 ≤ (x4_20 : Int) := of_decide_eq_true (by first | (with_reducible assumption) | assumption)
                                    have q140 : (x4_20 : Int) < (l0_0.length : Int) := of_decide_eq_true (by first | (with_reducible assumption) | assumption)
                                    obtain ⟨ad140, e140, hx140⟩ := Kd.at_int HR0_0.out x4_20 p140 q140
                                    obtain rfl : ad136 = ad140 := (by injection e140)
                                    replace hx140 := (HM.out.below.cell (World.block_lt_of_cell? w _ hx140)).trans hx140
                                    replace p140 := eq_true p140
                                    replace q140 := eq_true q140
                                    have p141 : 0 ≤ (x3_2 : Int) := of_decide_eq_true (by first | (with_reducible assumption) | assumption)
                                    have q141 : (x3_2 : Int) < (l0_0.length : Int) := of_decide_eq_true (by first | (with_reducible assumption) | assumption)
                                    obtain ⟨ad141, e141, hx141⟩ := Kd.at_int HR0_0.out x3_2 p141 q141
                                    obtain rfl : ad136 = ad141 := (by injection e141)
                                    replace hx141 := (HM.out.below.cell (World.block_lt_of_cell? w _ hx141)).trans hx141
                                    replace p141 := eq_true p141
                                    replace q141 := eq_true q141
                                    go_quiet ((go_at_call 72; refine calls_quiet (v := .bool false) ?_; exact (spec_l5Part.calls (rd l0_0 x4_20) (rd l0_0 x3_2) false _  A28_.out)))
                                    generalize hw : World.drewN _ _ = w35_
                                    have n_ := Aside0.mk (HM.out.step (show Below _ _ w35_ from hw ▸ pw_below_drewN (Below.refl _ _) _))
                                    clear HM hw
                                    have HM := n_
                                    clear n_
                                    go_wp2
                                    go_roundg k22_
                                    case measure => have hHK3__ := HK3_.out; have hHK21__ := HK21_.out; omega
                                    case rel => exact ⟨(wrap64 (x4_20 + 1)), (by first | rfl | (simp; done) | (simp [*]; done)), H', ⟨by have hHK3__ := HK3_.out; have hHK21__ := HK21_.out; omega⟩, HM⟩
                                · rw [if_neg c27_] at H
                                  have c27_b0 : decide (x3_2 < (l0_0.length : Int)) = false := decide_eq_false c27_
                                  clear c27_
                                  exact absurd H (by simp)
                              · rw [if_neg c26_] at H
                                have c26_b0 : decide (0 ≤ x3_2) = false := decide_eq_false c26_
                                clear c26_
                                exact absurd H (by simp)
                            · rw [if_neg c25_] at H
                              have c25_b0 : decide (x4_20 < (l0_0.length : Int)) = false := decide_eq_false c25_
                              clear c25_
                              exact absurd H (by simp)
                          · rw [if_neg c24_] at H
                            have c24_b0 : decide (0 ≤ x4_20) = false := decide_eq_false c24_
                            clear c24_
                            exact absurd H (by simp)
                        · rw [if_neg c23_] at H
                          have c23_b0 : decide (x4_20 < x3_2) = false := decide_eq_false c23_
                          clear c23_
                          have H' := Aside0.mk H
                          clear H
                          go_wp2
                          go_roundg k22_
                          case measure => have hHK3__ := HK3_.out; have hHK21__ := HK21_.out; omega
                          case rel => exact ⟨(wrap64 (x3_2 + 1)), (by first | rfl | (simp; done) | (simp [*]; done)), H', ⟨by have hHK3__ := HK3_.out; have hHK21__ := HK21_.out; omega⟩, HM⟩
                · rw [if_neg c12_] at H
                  have c12_b0 : decide (ji10_ < (l0_0.length : Int)) = false := decide_eq_false c12_
                  clear c12_
                  exact absurd H (by simp)
              · rw [if_neg c11_] at H
                have c11_b0 : decide (0 ≤ ji10_) = false := decide_eq_false c11_
                clear c11_
                exact absurd H (by simp)
            · rw [if_neg c9_] at H
              have c9_b0 : decide (0 < x3_2) = false := decide_eq_false c9_
              clear c9_
              have H' := Aside0.mk H
              clear H
              have hcz36_0 : wr.cell? ⟨gb1, 0, none⟩ = some (.slice A0_0 l0_0.length c0_0) := (blk_cell (HM.out.box 0 rfl) 0).trans rfl
              have hfz36_0 := blk_frozen (HM.out.box 0 rfl) 0
              go_wp2
              have p136 : 0 ≤ (x3_2 : Int) := of_decide_eq_true (by first | (with_reducible assumption) | assumption)
              have q136 : (x3_2 : Int) < (l0_0.length : Int) := of_decide_eq_true (by first | (with_reducible assumption) | assumption)
              obtain ⟨ad136, e136, hx136⟩ := Kd.at_int HR0_0.out x3_2 p136 q136
              cases e136
              replace hx136 := (HM.out.below.cell (World.block_lt_of_cell? w _ hx136)).trans hx136
              replace p136 := eq_true p136
              replace q136 := eq_true q136
              go_quiet ((go_at_call 35; refine calls_quiet (v := .bool true) ?_; exact (spec_l3Set.calls (rd l0_0 x3_2) true _  A7_.out)))
              generalize hw : World.drewN _ _ = w38_
              have n_ := Aside0.mk (HM.out.step (show Below _ _ w38_ from hw ▸ pw_below_drewN (Below.refl _ _) _))
              clear HM hw
              have HM := n_
              clear n_
              go_wp2
              go_loopg [4] k4_ (fun kq v4 w' => ∃ (x4_39 : Int), v4 = .int .i64 x4_39 ∧ Aside0 (spec_l5Family.l1 kq x3_2 x4_39 l0_0 = some r) ∧ Aside0 (kq ≤ k4_) ∧ Aside0 (MS w w' [.box gb1 24 #[.slice (some ad136) l0_0.length c0_0]]))
              case atStart => exact ⟨(0), (by first | rfl | (simp; done) | (simp [*]; done)), H', ⟨Nat.le_refl _⟩, HM⟩
              case round =>
                clear H'
                clear HM
                obtain ⟨x4_39, rfl, HA, HK40_, HM⟩ := hrel
                cases gk with
                | zero => exact absurd HA.out (by simp [spec_l5Family.l1])
                | succ k41_ =>
                  have H := HA.out
                  clear HA
                  simp only [spec_l5Family.l1] at H
                  by_cases c42_ : x4_39 < x3_2
                  · rw [if_pos c42_] at H
                    have c42_b0 : decide (x4_39 < x3_2) = true := decide_eq_true c42_
                    clear c42_
                    by_cases c43_ : 0 ≤ x4_39
                    · rw [if_pos c43_] at H
                      have c43_b0 : decide (0 ≤ x4_39) = true := decide_eq_true c43_
                      clear c43_
                      by_cases c44_ : x4_39 < (l0_0.length : Int)
                      · rw [if_pos c44_] at H
                        have c44_b0 : decide (x4_39 < (l0_0.length : Int)) = true := decide_eq_true c44_
                        clear c44_
                        by_cases c45_ : 0 ≤ x3_2
                        · rw [if_pos c45_] at H
                          have c45_b0 : decide (0 ≤ x3_2) = true := decide_eq_true c45_
                          clear c45_
                          by_cases c46_ : x3_2 < (l0_0.length : Int)
                          · rw [if_pos c46_] at H
                            have c46_b0 : decide (x3_2 < (l0_0.length : Int)) = true := decide_eq_true c46_
                            clear c46_
                            replace H := Option.bind_eq_some_iff.mp H
                            obtain ⟨t142, A47_0, H⟩ := H
                            replace H : (if t142 = true then (some false) else (spec_l5Family.l1 k41_ x3_2 (wrap64 (x4_39 + 1)) l0_0)) = some r := H
                            have A47_ := Aside0.mk A47_0
                            clear A47_0
                            by_cases c48_ : t142 = true
                            · subst c48_
                              have H1 : (some false) = some r := by rw [if_pos rfl] at H; exact H
                              clear H
                              have H := H1
                              clear H1
                              obtain rfl := Option.some.inj H
                              go_wp2
                              have hcz49_0 : wr.cell? ⟨gb1, 0, none⟩ = some (.slice (some ad136) l0_0.length c0_0) := (blk_cell (HM.out.box 0 rfl) 0).trans rfl
                              have hfz49_0 := blk_frozen (HM.out.box 0 rfl) 0
                              have p140 : 0 ≤ (x4_39 : Int) := of_decide_eq_true (by first | (with_reducible assumption) | assumption)
                              have q140 : (x4_39 : Int) < (l0_0.length : Int) := of_decide_eq_true (by first | (with_reducible assumption) | assumption)
                              obtain ⟨ad140, e140, hx140⟩ := Kd.at_int HR0_0.out x4_39 p140 q140
                              obtain rfl : ad136 = ad140 := (by injection e140)
                              replace hx140 := (HM.out.below.cell (World.block_lt_of_cell? w _ hx140)).trans hx140
                              replace p140 := eq_true p140
                              replace q140 := eq_true q140
                              have p141 : 0 ≤ (x3_2 : Int) := of_decide_eq_true (by first | (with_reducible assumption) | assumption)
                              have q141 : (x3_2 : Int) < (l0_0.length : Int) := of_decide_eq_true (by first | (with_reducible assumption) | assumption)
                              obtain ⟨ad141, e141, hx141⟩ := Kd.at_int HR0_0.out x3_2 p141 q141
                              obtain rfl : ad136 = ad141 := (by injection e141)
                              replace hx141 := (HM.out.below.cell (World.block_lt_of_cell? w _ hx141)).trans hx141
                              replace p141 := eq_true p141
                              replace q141 := eq_true q141
                              go_quiet ((go_at_call 72; refine calls_quiet (v := .bool true) ?_; exact (spec_l5Part.calls (rd l0_0 x4_39) (rd l0_0 x3_2) true _  A47_.out)))
                              generalize hw : World.drewN _ _ = w51_
                              have n_ := Aside0.mk (HM.out.step (show Below _ _ w51_ from hw ▸ pw_below_drewN (Below.refl _ _) _))
                              clear HM hw
                              have HM := n_
                              clear n_
                              go_wp2
                              go_ret
                              exact ⟨by first | rfl | (simp; done) | (simp [*]; done), HM.out.below⟩
                            · replace c48_ := Bool.eq_false_iff.mpr c48_
                              subst c48_
                              have H1 : (spec_l5Family.l1 k41_ x3_2 (wrap64 (x4_39 + 1)) l0_0) = some r := by rw [if_neg (show ¬ (false = true) by decide)] at H; exact H
                              clear H
                              have H := H1
                              clear H1
                              have H' := Aside0.mk H
                              clear H
                              go_wp2
                              have hcz52_0 : wr.cell? ⟨gb1, 0, none⟩ = some (.slice (some ad136) l0_0.length c0_0) := (blk_cell (HM.out.box 0 rfl) 0).trans rfl
                              have hfz52_0 := blk_frozen (HM.out.box 0 rfl) 0
                              have p140 : 0 ≤ (x4_39 : Int) := of_decide_eq_true (by first | (with_reducible assumption) | assumption)
                              have q140 : (x4_39 : Int) < (l0_0.length : Int) := of_decide_eq_true (by first | (with_reducible assumption) | assumption)
                              obtain ⟨ad140, e140, hx140⟩ := Kd.at_int HR0_0.out x4_39 p140 q140
                              obtain rfl : ad136 = ad140 := (by injection e140)
                              replace hx140 := (HM.out.below.cell (World.block_lt_of_cell? w _ hx140)).trans hx140
                              replace p140 := eq_true p140
                              replace q140 := eq_true q140
                              have p141 : 0 ≤ (x3_2 : Int) := of_decide_eq_true (by first | (with_reducible assumption) | assumption)
                              have q141 : (x3_2 : Int) < (l0_0.length : Int) := of_decide_eq_true (by first | (with_reducible assumption) | assumption)
                              obtain ⟨ad141, e141, hx141⟩ := Kd.at_int HR0_0.out x3_2 p141 q141
                              obtain rfl : ad136 = ad141 := (by injection e141)
                              replace hx141 := (HM.out.below.cell (World.block_lt_of_cell? w _ hx141)).trans hx141
                              replace p141 := eq_true p141
                              replace q141 := eq_true q141
                              go_quiet ((go_at_call 72; refine calls_quiet (v := .bool false) ?_; exact (spec_l5Part.calls (rd l0_0 x4_39) (rd l0_0 x3_2) false _  A47_.out)))
                              generalize hw : World.drewN _ _ = w54_
                              have n_ := Aside0.mk (HM.out.step (show Below _ _ w54_ from hw ▸ pw_below_drewN (Below.refl _ _) _))
                              clear HM hw
                              have HM := n_
                              clear n_
                              go_wp2
                              go_roundg k41_
                              case measure => have hHK3__ := HK3_.out; have hHK40__ := HK40_.out; omega
                              case rel => exact ⟨(wrap64 (x4_39 + 1)), (by first | rfl | (simp; done) | (simp [*]; done)), H', ⟨by have hHK3__ := HK3_.out; have hHK40__ := HK40_.out; omega⟩, HM⟩
                          · rw [if_neg c46_] at H
                            have c46_b0 : decide (x3_2 < (l0_0.length : Int)) = false := decide_eq_false c46_
                            clear c46_
                            exact absurd H (by simp)
                        · rw [if_neg c45_] at H
                          have c45_b0 : decide (0 ≤ x3_2) = false := decide_eq_false c45_
                          clear c45_
                          exact absurd H (by simp)
                      · rw [if_neg c44_] at H
                        have c44_b0 : decide (x4_39 < (l0_0.length : Int)) = false := decide_eq_false c44_
                        clear c44_
                        exact absurd H (by simp)
                    · rw [if_neg c43_] at H
                      have c43_b0 : decide (0 ≤ x4_39) = false := decide_eq_false c43_
                      clear c43_
                      exact absurd H (by simp)
                  · rw [if_neg c42_] at H
                    have c42_b0 : decide (x4_39 < x3_2) = false := decide_eq_false c42_
                    clear c42_
                    have H' := Aside0.mk H
                    clear H
                    go_wp2
                    go_roundg k41_
                    case measure => have hHK3__ := HK3_.out; have hHK40__ := HK40_.out; omega
                    case rel => exact ⟨(wrap64 (x3_2 + 1)), (by first | rfl | (simp; done) | (simp [*]; done)), H', ⟨by have hHK3__ := HK3_.out; have hHK40__ := HK40_.out; omega⟩, HM⟩
          · replace c8_ := Bool.eq_false_iff.mpr c8_
            subst c8_
            have H1 : (some false) = some r := by rw [if_neg (show ¬ (false = true) by decide)] at H; exact H
            clear H
            have H := H1
            clear H1
            obtain rfl := Option.some.inj H
            have hcz55_0 : wr.cell? ⟨gb1, 0, none⟩ = some (.slice A0_0 l0_0.length c0_0) := (blk_cell (HM.out.box 0 rfl) 0).trans rfl
            have hfz55_0 := blk_frozen (HM.out.box 0 rfl) 0
            go_wp2
            have p136 : 0 ≤ (x3_2 : Int) := of_decide_eq_true (by first | (with_reducible assumption) | assumption)
            have q136 : (x3_2 : Int) < (l0_0.length : Int) := of_decide_eq_true (by first | (with_reducible assumption) | assumption)
            obtain ⟨ad136, e136, hx136⟩ := Kd.at_int HR0_0.out x3_2 p136 q136
            cases e136
            replace hx136 := (HM.out.below.cell (World.block_lt_of_cell? w _ hx136)).trans hx136
            replace p136 := eq_true p136
            replace q136 := eq_true q136
            go_quiet ((go_at_call 35; refine calls_quiet (v := .bool false) ?_; exact (spec_l3Set.calls (rd l0_0 x3_2) false _  A7_.out)))
            generalize hw : World.drewN _ _ = w57_
            have n_ := Aside0.mk (HM.out.step (show Below _ _ w57_ from hw ▸ pw_below_drewN (Below.refl _ _) _))
            clear HM hw
            have HM := n_
            clear n_
            go_wp2
            go_ret
            exact ⟨by first | rfl | (simp; done) | (simp [*]; done), HM.out.below⟩
        · rw [if_neg c6_] at H
          have c6_b0 : decide (0 ≤ x3_2) = false := decide_eq_false c6_
          clear c6_
          exact absurd H (by simp)
      · rw [if_neg c5_] at H
        have c5_b0 : decide (x3_2 < (l0_0.length : Int)) = false := decide_eq_false c5_
        clear c5_
        obtain rfl := Option.some.inj H
        have hcz58_0 : wr.cell? ⟨gb1, 0, none⟩ = some (.slice A0_0 l0_0.length c0_0) := (blk_cell (HM.out.box 0 rfl) 0).trans rfl
        have hfz58_0 := blk_frozen (HM.out.box 0 rfl) 0
        go_wp2
        go_ret
        exact ⟨by first | rfl | (simp; done) | (simp [*]; done), HM.out.below⟩

/-! ### spec_FixFamily: function 22 -/
def spec_FixFamily.l0 : Nat → (Int) → (Int) → (List Bool) → (List Int) → Option (List Int × Bool)
  | 0, _, _, _, _ => none
  | k + 1, x1, x7, m3, m1_0 => if x7 < 64 then ((spec_l5Has.f k m1_0 (Go.bits .andNot .i64 x7 x1)).bind fun t145 => (if 0 ≤ x7 then (spec_FixFamily.l0 k x1 (wrap64 (x7 + 1)) (m3.set (x7 : Int).toNat t145) m1_0) else (none))) else ((spec_l5Made.f k m3).bind fun t148 => (some (t148, true)))
def spec_FixFamily.f (k : Nat) (l0_0 : List Int) (a1 : Int) : Option (List Int × Bool) := (spec_l5Family.f k l0_0).bind fun t143 => (if t143 = true then ((spec_l3Set.f a1).bind fun t144 => (if t144 = true then (spec_FixFamily.l0 k a1 0 (List.replicate 64 false) l0_0) else (some ([], false)))) else (some ([], false)))
set_option maxHeartbeats 8000000 in
set_option maxRecDepth 100000 in
theorem spec_FixFamily.calls (k : Nat) (A0_0 : Option Addr) (c0_0 : Nat) (l0_0 : List Int) (a1 : Int) (r1 : List Int) (r2 : Bool) (w : World) (hr0_0 : Kd.C (Kd.int .i64) w A0_0 l0_0.length l0_0) (hc0_0 : l0_0.length ≤ c0_0) (h : spec_FixFamily.f k l0_0 a1 = some (r1, r2)) :
    Calls Try.prog 22 #[.agg #[.slice A0_0 l0_0.length c0_0], .int .i64 a1] w fun e w' => ∃ v0_ : Value, e = .returned (.tuple #[.agg #[v0_], .bool r2]) ∧ Kd.R (Kd.int .i64) 3 w' w.heap.size (fun _ => True) v0_ r1 ∧ Below w.heap.size w w' := by
  have HR0_0 := Aside0.mk hr0_0
  have HC0_0 := Aside0.mk hc0_0
  clear hr0_0 hc0_0
  have hu24 := Try.underlying24
  have hu46 := Try.underlying46
  have HM := Aside0.mk (MS.start w)
  have H : ((spec_l5Family.f k l0_0).bind fun t143 => (if t143 = true then ((spec_l3Set.f a1).bind fun t144 => (if t144 = true then (spec_FixFamily.l0 k a1 0 (List.replicate 64 false) l0_0) else (some ([], false)))) else (some ([], false)))) = some (r1, r2) := h
  clear h
  replace H := Option.bind_eq_some_iff.mp H
  obtain ⟨t143, A1_0, H⟩ := H
  replace H : (if t143 = true then ((spec_l3Set.f a1).bind fun t144 => (if t144 = true then (spec_FixFamily.l0 k a1 0 (List.replicate 64 false) l0_0) else (some ([], false)))) else (some ([], false))) = some (r1, r2) := H
  have A1_ := Aside0.mk A1_0
  clear A1_0
  by_cases c2_ : t143 = true
  · subst c2_
    have H1 : ((spec_l3Set.f a1).bind fun t144 => (if t144 = true then (spec_FixFamily.l0 k a1 0 (List.replicate 64 false) l0_0) else (some ([], false)))) = some (r1, r2) := by rw [if_pos rfl] at H; exact H
    clear H
    have H := H1
    clear H1
    replace H := Option.bind_eq_some_iff.mp H
    obtain ⟨t144, A3_0, H⟩ := H
    replace H : (if t144 = true then (spec_FixFamily.l0 k a1 0 (List.replicate 64 false) l0_0) else (some ([], false))) = some (r1, r2) := H
    have A3_ := Aside0.mk A3_0
    clear A3_0
    by_cases c4_ : t144 = true
    · subst c4_
      have H1 : (spec_FixFamily.l0 k a1 0 (List.replicate 64 false) l0_0) = some (r1, r2) := by rw [if_pos rfl] at H; exact H
      clear H
      have H := H1
      clear H1
      have H' := Aside0.mk H
      clear H
      go_enter Try.func22, Try.ntmps22
      go_wp2_with (first | ((with_reducible refine gate_dst (N := 2) rfl ?_); refine box_event ?hg (N := 2) ?hd (cs := #[.slice A0_0 l0_0.length c0_0]) (t := 24) ?hr ?_; (case hd => rfl); (case hg => rfl); (case hr => first | (go_simp; done) | (go_simp; rfl)); intro gb1 hg w5_ hbox hb; have n_ := Aside0.mk (HM.out.addBox hb hbox hg); clear HM; have HM := n_; clear n_; clear hb hbox hg) | ((with_reducible refine gate_dst (N := 4) rfl ?_); refine box_event ?hg (N := 4) ?hd (cs := #[.slice none 0 0]) (t := 24) ?hr ?_; (case hd => rfl); (case hg => rfl); (case hr => first | (go_simp; done) | (go_simp; rfl)); intro gb2 hg w6_ hbox hb; have n_ := Aside0.mk (HM.out.addBox hb hbox hg); clear HM; have HM := n_; clear n_; clear hb hbox hg; have hcz7_0 : w6_.cell? ⟨gb1, 0, none⟩ = some (.slice A0_0 l0_0.length c0_0) := (blk_cell (HM.out.box 1 rfl) 0).trans rfl; have hfz7_0 := blk_frozen (HM.out.box 1 rfl) 0) | ((with_reducible refine gate_callee (f := 50) rfl ?_); (with_reducible refine gate_dst (N := 9) rfl ?_); refine goesL_ (some 9) rfl rfl Try.func50 (by kernel_rfl) rfl #[.agg #[.slice A0_0 l0_0.length c0_0]] rfl (by (try simp only [List.map_toArray, List.map_cons, List.map_nil]); first | done | rfl | (simp only [List.length_drop, List.length_take]; rfl)) ?_; (with_reducible refine (spec_l5Family.calls k _ _ l0_0 true _ ?sd0 ?sd1 A1_.out).mono ?_); (case sd0 => exact (Kd.C_below HR0_0.out HM.out.below)); (case sd1 => exact HC0_0.out); rintro e_ w8_ ⟨rfl, hb⟩; refine ⟨_, rfl, ?_⟩; have n_ := Aside0.mk (HM.out.step hb); clear HM; have HM := n_; clear n_; clear hb) | (go_at_call 35; (refine calls_of_args (args' := #[.int .i64 a1]) (by first | done | rfl) ?_); (with_reducible refine (spec_l3Set.calls a1 true _  A3_.out).mono ?_); rintro e_ w9_ ⟨rfl, hd_⟩; have hb := hd_.below; clear hd_; have n_ := Aside0.mk (HM.out.step hb); clear HM; have HM := n_; clear n_; clear hb) | ((with_reducible refine gate_dst (N := 17) rfl ?_); refine build_zero ?hg (N := 17) ?hd (cs := (bcs (List.replicate 64 false))) ?hr ?_; (case hd => rfl); (case hg => rfl); (case hr => first | (go_simp; done) | (go_simp; rfl))) | ((with_reducible refine gate_dst (N := 6) rfl ?_); refine box_event ?hg (N := 6) ?hd (cs := (bcs (List.replicate 64 false))) (t := 46) ?hr ?_; (case hd => rfl); (case hg => rfl); (case hr => first | (go_simp; done) | (go_simp; rfl)); intro gb3 hg w10_ hbox hb; have n_ := Aside0.mk (HM.out.addBox hb hbox hg); clear HM; have HM := n_; clear n_; clear hb hbox hg) | ((with_reducible refine gate_store (t := 46) (p := 6) rfl ?_); refine wpList_store_row rfl _ _ _ rfl gb3 (bcs (List.replicate 64 false)) rfl rfl 46 (bcs (List.replicate 64 false)) (HM.out.box 0 rfl) (by rw [bcs_size, (List.length_replicate)]; kernel_rfl) ((bcs_size _).trans (((List.length_replicate)).trans ((show _ = 64 from (List.length_replicate)).symm.trans (bcs_size _).symm))) (bcs_one _) ?_; generalize hw : World.setRow _ _ _ = w11_; have n_ : Aside0 (MS w w11_ [.box gb3 46 (bcs (List.replicate 64 false)), .box gb2 24 #[.slice none 0 0], .box gb1 24 #[.slice A0_0 l0_0.length c0_0]]) := ⟨by rw [← hw]; exact HM.out.setRow 0 rfl _⟩; clear HM hw; have HM := n_; clear n_))
      go_loopg [7] k (fun kq v7 w' => ∃ (x7_12 : Int) (m3_12 : List Bool), v7 = .int .i64 x7_12 ∧ Aside0 (spec_FixFamily.l0 kq a1 x7_12 m3_12 l0_0 = some (r1, r2)) ∧ Aside0 (kq ≤ k) ∧ Aside0 (m3_12.length = 64) ∧ Aside0 (MS w w' [.box gb3 46 (bcs m3_12), .box gb2 24 #[.slice none 0 0], .box gb1 24 #[.slice A0_0 l0_0.length c0_0]]))
      case atStart => exact ⟨(0), ((List.replicate 64 false)), (by first | rfl | (simp; done) | (simp [*]; done)), H', ⟨Nat.le_refl _⟩, ⟨(List.length_replicate)⟩, HM⟩
      case round =>
        clear H'
        clear HM
        obtain ⟨x7_12, m3_12, rfl, HA, HK13_, HLm3_12, HM⟩ := hrel
        cases gk with
        | zero => exact absurd HA.out (by simp [spec_FixFamily.l0])
        | succ k14_ =>
          have H := HA.out
          clear HA
          simp only [spec_FixFamily.l0] at H
          by_cases c15_ : x7_12 < 64
          · rw [if_pos c15_] at H
            have c15_b0 : decide (x7_12 < 64) = true := decide_eq_true c15_
            clear c15_
            replace H := Option.bind_eq_some_iff.mp H
            obtain ⟨t145, A16_0, H⟩ := H
            replace H : (if 0 ≤ x7_12 then (spec_FixFamily.l0 k14_ a1 (wrap64 (x7_12 + 1)) (m3_12.set (x7_12 : Int).toNat t145) l0_0) else (none)) = some (r1, r2) := H
            have A16_ := Aside0.mk A16_0
            clear A16_0
            by_cases c17_ : 0 ≤ x7_12
            · rw [if_pos c17_] at H
              have c17_b0 : decide (0 ≤ x7_12) = true := decide_eq_true c17_
              clear c17_
              obtain ⟨y146, hy146⟩ : ∃ y_, y_ = (m3_12.set (x7_12 : Int).toNat t145) := ⟨_, rfl⟩
              replace H : (spec_FixFamily.l0 k14_ a1 (wrap64 (x7_12 + 1)) y146 l0_0) = some (r1, r2) := by first | (rw [hy146]; with_reducible exact H) | (have H2_ := (Option.bind_some _ _).symm.trans H; rw [hy146]; with_reducible exact H2_) | (have H2_ := (Option.bind_some _ _).symm.trans H; with_reducible exact H2_) | with_reducible exact H | (rw [hy146]; exact H) | exact H
              have Ny146 := Aside0.mk hy146
              clear hy146
              have H' := Aside0.mk H
              clear H
              have hcz18_0 : wr.cell? ⟨gb1, 0, none⟩ = some (.slice A0_0 l0_0.length c0_0) := (blk_cell (HM.out.box 2 rfl) 0).trans rfl
              have hfz18_0 := blk_frozen (HM.out.box 2 rfl) 0
              go_wp2_with (first | ((with_reducible refine gate_callee (f := 51) rfl ?_); (with_reducible refine gate_dst (N := 27) rfl ?_); refine goesL_ (some 27) rfl rfl Try.func51 (by kernel_rfl) rfl #[.agg #[.slice A0_0 l0_0.length c0_0], .int .i64 (Go.bits .andNot .i64 x7_12 a1)] rfl (by (try simp only [List.map_toArray, List.map_cons, List.map_nil]); first | done | rfl | (simp only [List.length_drop, List.length_take]; rfl)) ?_; (with_reducible refine (spec_l5Has.calls k14_ _ _ l0_0 (Go.bits .andNot .i64 x7_12 a1) t145 _ ?sd0 ?sd1 A16_.out).mono ?_); (case sd0 => exact (Kd.C_below HR0_0.out HM.out.below)); (case sd1 => exact HC0_0.out); rintro e_ w19_ ⟨rfl, hb⟩; refine ⟨_, rfl, ?_⟩; have n_ := Aside0.mk (HM.out.step hb); clear HM; have HM := n_; clear n_; clear hb; have p147 : 0 ≤ (x7_12 : Int) := of_decide_eq_true (by first | (with_reducible assumption) | assumption); have q147 : (x7_12 : Int) < 64 := of_decide_eq_true (by first | (with_reducible assumption) | assumption); have hx147 := bcell (HM.out.box 0 rfl) x7_12 p147 (by have := HLm3_12.out; omega); have hf147 := blk_frozen (HM.out.box 0 rfl) (x7_12 : Int).toNat; replace p147 := eq_true p147; replace q147 := eq_true q147) | ((with_reducible refine gate_store (t := 4) (p := 28) rfl ?_); refine store_event (t := 4) (p := 28) (v := ?vow20_) (w1 := (w19_.setCell ⟨gb3, (x7_12 : Int).toNat, none⟩ (.bool t145))) ?hg ?ho ?hn ?hr ?_; (case ho => rfl); (case hg => rfl); (case hn => rfl); (case hr => first | (go_simp; done) | (go_simp; rfl)); intro w20_ hw; have n_ : Aside0 (MS w w20_ [.box gb3 46 (bcs y146), .box gb2 24 #[.slice none 0 0], .box gb1 24 #[.slice A0_0 l0_0.length c0_0]]) := ⟨by rw [hw]; exact HM.out.setBox 0 rfl _ _ (by rw [bcs_set, ← Ny146.out])⟩; clear HM hw; have HM := n_; clear n_))
              go_roundg k14_
              case measure => have hHK13__ := HK13_.out; omega
              case rel => exact ⟨(wrap64 (x7_12 + 1)), (y146), (by first | rfl | (simp; done) | (simp [*]; done)), H', ⟨by have hHK13__ := HK13_.out; omega⟩, ⟨(show y146.length = 64 from by rw [Ny146.out, List.length_set]; exact HLm3_12.out)⟩, HM⟩
            · rw [if_neg c17_] at H
              have c17_b0 : decide (0 ≤ x7_12) = false := decide_eq_false c17_
              clear c17_
              exact absurd H (by simp)
          · rw [if_neg c15_] at H
            have c15_b0 : decide (x7_12 < 64) = false := decide_eq_false c15_
            clear c15_
            replace H := Option.bind_eq_some_iff.mp H
            obtain ⟨t148, A21_0, H⟩ := H
            replace H : (some (t148, true)) = some (r1, r2) := H
            have A21_ := Aside0.mk A21_0
            clear A21_0
            simp only [Option.some.injEq, Prod.mk.injEq] at H
            obtain ⟨rfl, rfl⟩ := H
            go_wp2_with (first | ((with_reducible refine gate_dst (N := 29) rfl ?_); refine wpList_load_row rfl _ _ rfl gb3 rfl 46 (bcs m3_12) (0, 0) _ (HM.out.box 0 rfl) Try.underlying46 rfl (by rw [bcs_size, HLm3_12.out]; kernel_rfl) ?_) | ((with_reducible refine gate_callee (f := 36) rfl ?_); (with_reducible refine gate_dst (N := 30) rfl ?_); refine goesL_ (some 30) rfl rfl Try.func36 (by kernel_rfl) rfl #[.agg (bcs m3_12)] rfl (by (try simp only [List.map_toArray, List.map_cons, List.map_nil]); first | done | rfl | (simp only [List.length_drop, List.length_take]; rfl)) ?_; (with_reducible refine (spec_l5Made.calls k14_ m3_12 t148 _ ?sd0 A21_.out).mono ?_); (case sd0 => exact HLm3_12.out); rintro e_ w22_ ⟨vv0_, rfl, ho0_, hb⟩; refine ⟨_, rfl, ?_⟩; obtain ⟨Ao4_0, co4_0, ev_⟩ := Kd.R_slice ho0_; subst ev_; have n_ := Aside0.mk (HM.out.addR hb ho0_); clear HM; have HM := n_; clear n_; clear hb ho0_; have hcz24_0 : w22_.cell? ⟨gb2, 0, none⟩ = some (.slice none 0 0) := (blk_cell (HM.out.box 2 rfl) 0).trans rfl; have hfz24_0 := blk_frozen (HM.out.box 2 rfl) 0) | ((with_reducible refine gate_store (t := 24) (p := 4) rfl ?_); refine store_event (t := 24) (p := 4) (v := ?vow23_) (w1 := (w22_.setCell ⟨gb2, 0, none⟩ (.slice Ao4_0 t148.length co4_0))) ?hg ?ho ?hn ?hr ?_; (case ho => rfl); (case hg => rfl); (case hn => rfl); (case hr => first | (go_simp; done) | (go_simp; rfl)); intro w23_ hw; have n_ : Aside0 (MS w w23_ [.row 3 (.slice Ao4_0 t148.length co4_0) (encs (Value.int .i64) t148), .box gb3 46 (bcs m3_12), .box gb2 24 #[.slice Ao4_0 t148.length co4_0], .box gb1 24 #[.slice A0_0 l0_0.length c0_0]]) := ⟨by rw [hw]; exact HM.out.setBox 2 rfl _ _ rfl⟩; clear HM hw; have HM := n_; clear n_))
            refine bodyPost_ret (results_ct rfl _ _ gb2 24 #[.slice Ao4_0 t148.length co4_0] (0, 0) _ rfl (HM.out.box 2 rfl) Try.underlying24 rfl (by kernel_rfl)) rfl ?_
            exact ⟨_, by first | rfl | (simp; done) | (simp [*]; done), HM.out.R 0 rfl, HM.out.below⟩
    · replace c4_ := Bool.eq_false_iff.mpr c4_
      subst c4_
      have H1 : (some ([], false)) = some (r1, r2) := by rw [if_neg (show ¬ (false = true) by decide)] at H; exact H
      clear H
      have H := H1
      clear H1
      simp only [Option.some.injEq, Prod.mk.injEq] at H
      obtain ⟨rfl, rfl⟩ := H
      go_enter Try.func22, Try.ntmps22
      go_wp2_with (first | ((with_reducible refine gate_dst (N := 2) rfl ?_); refine box_event ?hg (N := 2) ?hd (cs := #[.slice A0_0 l0_0.length c0_0]) (t := 24) ?hr ?_; (case hd => rfl); (case hg => rfl); (case hr => first | (go_simp; done) | (go_simp; rfl)); intro gb1 hg w25_ hbox hb; have n_ := Aside0.mk (HM.out.addBox hb hbox hg); clear HM; have HM := n_; clear n_; clear hb hbox hg) | ((with_reducible refine gate_dst (N := 4) rfl ?_); refine box_event ?hg (N := 4) ?hd (cs := #[.slice none 0 0]) (t := 24) ?hr ?_; (case hd => rfl); (case hg => rfl); (case hr => first | (go_simp; done) | (go_simp; rfl)); intro gb2 hg w26_ hbox hb; have n_ := Aside0.mk (HM.out.addBox hb hbox hg); clear HM; have HM := n_; clear n_; clear hb hbox hg; have hcz27_0 : w26_.cell? ⟨gb1, 0, none⟩ = some (.slice A0_0 l0_0.length c0_0) := (blk_cell (HM.out.box 1 rfl) 0).trans rfl; have hfz27_0 := blk_frozen (HM.out.box 1 rfl) 0) | ((with_reducible refine gate_callee (f := 50) rfl ?_); (with_reducible refine gate_dst (N := 9) rfl ?_); refine goesL_ (some 9) rfl rfl Try.func50 (by kernel_rfl) rfl #[.agg #[.slice A0_0 l0_0.length c0_0]] rfl (by (try simp only [List.map_toArray, List.map_cons, List.map_nil]); first | done | rfl | (simp only [List.length_drop, List.length_take]; rfl)) ?_; (with_reducible refine (spec_l5Family.calls k _ _ l0_0 true _ ?sd0 ?sd1 A1_.out).mono ?_); (case sd0 => exact (Kd.C_below HR0_0.out HM.out.below)); (case sd1 => exact HC0_0.out); rintro e_ w28_ ⟨rfl, hb⟩; refine ⟨_, rfl, ?_⟩; have n_ := Aside0.mk (HM.out.step hb); clear HM; have HM := n_; clear n_; clear hb) | (go_at_call 35; (refine calls_of_args (args' := #[.int .i64 a1]) (by first | done | rfl) ?_); (with_reducible refine (spec_l3Set.calls a1 false _  A3_.out).mono ?_); rintro e_ w29_ ⟨rfl, hd_⟩; have hb := hd_.below; clear hd_; have n_ := Aside0.mk (HM.out.step hb); clear HM; have HM := n_; clear n_; clear hb; have hcz31_0 : w29_.cell? ⟨gb2, 0, none⟩ = some (.slice none 0 0) := (blk_cell (HM.out.box 0 rfl) 0).trans rfl; have hfz31_0 := blk_frozen (HM.out.box 0 rfl) 0) | ((with_reducible refine gate_store (t := 24) (p := 4) rfl ?_); refine store_event (t := 24) (p := 4) (v := ?vow30_) (w1 := (w29_.setCell ⟨gb2, 0, none⟩ (.slice none 0 0))) ?hg ?ho ?hn ?hr ?_; (case ho => rfl); (case hg => rfl); (case hn => rfl); (case hr => first | (go_simp; done) | (go_simp; rfl)); intro w30_ hw; have n_ : Aside0 (MS w w30_ [.box gb2 24 #[.slice none 0 0], .box gb1 24 #[.slice A0_0 l0_0.length c0_0]]) := ⟨by rw [hw]; exact HM.out.setBox 0 rfl _ _ rfl⟩; clear HM hw; have HM := n_; clear n_))
      refine bodyPost_ret (results_ct rfl _ _ gb2 24 #[.slice none 0 0] (0, 0) _ rfl (HM.out.box 0 rfl) Try.underlying24 rfl (by kernel_rfl)) rfl ?_
      exact ⟨_, by first | rfl | (simp; done) | (simp [*]; done), Kd.R_nil _ _ _ _ _, HM.out.below⟩
  · replace c2_ := Bool.eq_false_iff.mpr c2_
    subst c2_
    have H1 : (some ([], false)) = some (r1, r2) := by rw [if_neg (show ¬ (false = true) by decide)] at H; exact H
    clear H
    have H := H1
    clear H1
    simp only [Option.some.injEq, Prod.mk.injEq] at H
    obtain ⟨rfl, rfl⟩ := H
    go_enter Try.func22, Try.ntmps22
    go_wp2_with (first | ((with_reducible refine gate_dst (N := 2) rfl ?_); refine box_event ?hg (N := 2) ?hd (cs := #[.slice A0_0 l0_0.length c0_0]) (t := 24) ?hr ?_; (case hd => rfl); (case hg => rfl); (case hr => first | (go_simp; done) | (go_simp; rfl)); intro gb1 hg w32_ hbox hb; have n_ := Aside0.mk (HM.out.addBox hb hbox hg); clear HM; have HM := n_; clear n_; clear hb hbox hg) | ((with_reducible refine gate_dst (N := 4) rfl ?_); refine box_event ?hg (N := 4) ?hd (cs := #[.slice none 0 0]) (t := 24) ?hr ?_; (case hd => rfl); (case hg => rfl); (case hr => first | (go_simp; done) | (go_simp; rfl)); intro gb2 hg w33_ hbox hb; have n_ := Aside0.mk (HM.out.addBox hb hbox hg); clear HM; have HM := n_; clear n_; clear hb hbox hg; have hcz34_0 : w33_.cell? ⟨gb1, 0, none⟩ = some (.slice A0_0 l0_0.length c0_0) := (blk_cell (HM.out.box 1 rfl) 0).trans rfl; have hfz34_0 := blk_frozen (HM.out.box 1 rfl) 0) | ((with_reducible refine gate_callee (f := 50) rfl ?_); (with_reducible refine gate_dst (N := 9) rfl ?_); refine goesL_ (some 9) rfl rfl Try.func50 (by kernel_rfl) rfl #[.agg #[.slice A0_0 l0_0.length c0_0]] rfl (by (try simp only [List.map_toArray, List.map_cons, List.map_nil]); first | done | rfl | (simp only [List.length_drop, List.length_take]; rfl)) ?_; (with_reducible refine (spec_l5Family.calls k _ _ l0_0 false _ ?sd0 ?sd1 A1_.out).mono ?_); (case sd0 => exact (Kd.C_below HR0_0.out HM.out.below)); (case sd1 => exact HC0_0.out); rintro e_ w35_ ⟨rfl, hb⟩; refine ⟨_, rfl, ?_⟩; have n_ := Aside0.mk (HM.out.step hb); clear HM; have HM := n_; clear n_; clear hb; have hcz37_0 : w35_.cell? ⟨gb2, 0, none⟩ = some (.slice none 0 0) := (blk_cell (HM.out.box 0 rfl) 0).trans rfl; have hfz37_0 := blk_frozen (HM.out.box 0 rfl) 0) | ((with_reducible refine gate_store (t := 24) (p := 4) rfl ?_); refine store_event (t := 24) (p := 4) (v := ?vow36_) (w1 := (w35_.setCell ⟨gb2, 0, none⟩ (.slice none 0 0))) ?hg ?ho ?hn ?hr ?_; (case ho => rfl); (case hg => rfl); (case hn => rfl); (case hr => first | (go_simp; done) | (go_simp; rfl)); intro w36_ hw; have n_ : Aside0 (MS w w36_ [.box gb2 24 #[.slice none 0 0], .box gb1 24 #[.slice A0_0 l0_0.length c0_0]]) := ⟨by rw [hw]; exact HM.out.setBox 0 rfl _ _ rfl⟩; clear HM hw; have HM := n_; clear n_))
    refine bodyPost_ret (results_ct rfl _ _ gb2 24 #[.slice none 0 0] (0, 0) _ rfl (HM.out.box 0 rfl) Try.underlying24 rfl (by kernel_rfl)) rfl ?_
    exact ⟨_, by first | rfl | (simp; done) | (simp [*]; done), Kd.R_nil _ _ _ _ _, HM.out.below⟩

/-! ### impl_isFamily: function 52 -/
mutual
def impl_isFamily.l0 : Nat → (List Int) → (Int) → (Int) → (List Int) → Option (Bool)
  | 0, _, _, _, _ => none
  | k + 1, x8, x9, x10, m1_0 => if x10 < x9 then (if 0 ≤ x10 then (if x10 < (x8.length : Int) then ((impl_isSet.f (rd x8 x10)).bind fun t150 => (if t150 = true then (if x10 > 0 then (if 0 ≤ (wrap64 (x10 - 1)) then (if (wrap64 (x10 - 1)) < (m1_0.length : Int) then (if (rd x8 x10) ≤ (rd m1_0 (wrap64 (x10 - 1))) then (some false) else (impl_isFamily.l1 k x10 (rd x8 x10) x8 x9 x10 m1_0 (m1_0.length : Int) 0 m1_0)) else (none)) else (none)) else (impl_isFamily.l1 k x10 (rd x8 x10) x8 x9 x10 m1_0 (m1_0.length : Int) 0 m1_0)) else (some false))) else (none)) else (none)) else (some true)
def impl_isFamily.l1 : Nat → (Int) → (Int) → (List Int) → (Int) → (Int) → (List Int) → (Int) → (Int) → (List Int) → Option (Bool)
  | 0, _, _, _, _, _, _, _, _, _ => none
  | k + 1, x3, x4, x8, x9, x10, x33, x34, x35, m1_0 => if x35 < x34 then (if 0 ≤ x35 then (if x35 < (x33.length : Int) then (if x35 = x3 then (impl_isFamily.l1 k x3 x4 x8 x9 x10 x33 x34 (wrap64 (x35 + 1)) m1_0) else (if (Go.bits .and .i64 (rd x33 x35) x4) = (rd x33 x35) then (some false) else (impl_isFamily.l1 k x3 x4 x8 x9 x10 x33 x34 (wrap64 (x35 + 1)) m1_0))) else (none)) else (none)) else (impl_isFamily.l0 k x8 x9 (wrap64 (x10 + 1)) m1_0)
end
def impl_isFamily.f (k : Nat) (l0_0 : List Int) : Option (Bool) := impl_isFamily.l0 k l0_0 (l0_0.length : Int) 0 l0_0
set_option maxHeartbeats 8000000 in
set_option maxRecDepth 100000 in
theorem impl_isFamily.calls (k : Nat) (A0_0 : Option Addr) (c0_0 : Nat) (l0_0 : List Int) (r : Bool) (w : World) (hr0_0 : Kd.C (Kd.int .i64) w A0_0 l0_0.length l0_0) (hc0_0 : l0_0.length ≤ c0_0) (h : impl_isFamily.f k l0_0 = some r) :
    Calls Try.prog 52 #[.agg #[.slice A0_0 l0_0.length c0_0]] w fun e w' => e = .returned (.bool r) ∧ Below w.heap.size w w' := by
  have HR0_0 := Aside0.mk hr0_0
  have HC0_0 := Aside0.mk hc0_0
  clear hr0_0 hc0_0
  have hu22 := Try.underlying22
  have hu24 := Try.underlying24
  have HM := Aside0.mk (MS.start w)
  have H : (impl_isFamily.l0 k l0_0 (l0_0.length : Int) 0 l0_0) = some r := h
  clear h
  have H' := Aside0.mk H
  clear H
  go_enter Try.func52, Try.ntmps52
  go_wp2_with (first | ((with_reducible refine gate_dst (N := 1) rfl ?_); refine box_event ?hg (N := 1) ?hd (cs := #[.slice A0_0 l0_0.length c0_0]) (t := 24) ?hr ?_; (case hd => rfl); (case hg => rfl); (case hr => first | (go_simp; done) | (go_simp; rfl)); intro gb1 hg w1_ hbox hb; have n_ := Aside0.mk (HM.out.addBox hb hbox hg); clear HM; have HM := n_; clear n_; clear hb hbox hg; have hcz2_0 : w1_.cell? ⟨gb1, 0, none⟩ = some (.slice A0_0 l0_0.length c0_0) := (blk_cell (HM.out.box 0 rfl) 0).trans rfl; have hfz2_0 := blk_frozen (HM.out.box 0 rfl) 0))
  go_loopg [10] k (fun kq v10 w' => ∃ (x10_3 : Int), v10 = .int .i64 x10_3 ∧ Aside0 (impl_isFamily.l0 kq l0_0 (l0_0.length : Int) x10_3 l0_0 = some r) ∧ Aside0 (kq ≤ k) ∧ Aside0 (MS w w' [.box gb1 24 #[.slice A0_0 l0_0.length c0_0]]))
  case atStart => exact ⟨(0), (by first | rfl | (simp; done) | (simp [*]; done)), H', ⟨Nat.le_refl _⟩, HM⟩
  case round =>
    clear H'
    clear HM
    obtain ⟨x10_3, rfl, HA, HK4_, HM⟩ := hrel
    cases gk with
    | zero => exact absurd HA.out (by simp [impl_isFamily.l0])
    | succ k5_ =>
      have H := HA.out
      clear HA
      simp only [impl_isFamily.l0] at H
      by_cases c6_ : x10_3 < (l0_0.length : Int)
      · rw [if_pos c6_] at H
        have c6_b0 : decide (x10_3 < (l0_0.length : Int)) = true := decide_eq_true c6_
        clear c6_
        by_cases c7_ : 0 ≤ x10_3
        · rw [if_pos c7_] at H
          have c7_b0 : decide (0 ≤ x10_3) = true := decide_eq_true c7_
          clear c7_
          by_cases c8_ : x10_3 < (l0_0.length : Int)
          · rw [if_pos c8_] at H
            have c8_b0 : decide (x10_3 < (l0_0.length : Int)) = true := decide_eq_true c8_
            clear c8_
            replace H := Option.bind_eq_some_iff.mp H
            obtain ⟨t150, A9_0, H⟩ := H
            replace H : (if t150 = true then (if x10_3 > 0 then (if 0 ≤ (wrap64 (x10_3 - 1)) then (if (wrap64 (x10_3 - 1)) < (l0_0.length : Int) then (if (rd l0_0 x10_3) ≤ (rd l0_0 (wrap64 (x10_3 - 1))) then (some false) else (impl_isFamily.l1 k5_ x10_3 (rd l0_0 x10_3) l0_0 (l0_0.length : Int) x10_3 l0_0 (l0_0.length : Int) 0 l0_0)) else (none)) else (none)) else (impl_isFamily.l1 k5_ x10_3 (rd l0_0 x10_3) l0_0 (l0_0.length : Int) x10_3 l0_0 (l0_0.length : Int) 0 l0_0)) else (some false)) = some r := H
            have A9_ := Aside0.mk A9_0
            clear A9_0
            by_cases c10_ : t150 = true
            · subst c10_
              have H1 : (if x10_3 > 0 then (if 0 ≤ (wrap64 (x10_3 - 1)) then (if (wrap64 (x10_3 - 1)) < (l0_0.length : Int) then (if (rd l0_0 x10_3) ≤ (rd l0_0 (wrap64 (x10_3 - 1))) then (some false) else (impl_isFamily.l1 k5_ x10_3 (rd l0_0 x10_3) l0_0 (l0_0.length : Int) x10_3 l0_0 (l0_0.length : Int) 0 l0_0)) else (none)) else (none)) else (impl_isFamily.l1 k5_ x10_3 (rd l0_0 x10_3) l0_0 (l0_0.length : Int) x10_3 l0_0 (l0_0.length : Int) 0 l0_0)) = some r := by rw [if_pos rfl] at H; exact H
              clear H
              have H := H1
              clear H1
              by_cases c11_ : x10_3 > 0
              · rw [if_pos c11_] at H
                have c11_b0 : decide (0 < x10_3) = true := decide_eq_true c11_
                clear c11_
                obtain ⟨ji12_, hji12_⟩ : ∃ j_ : Int, (wrap64 (x10_3 - 1)) = j_ := ⟨_, rfl⟩
                replace H : (if 0 ≤ ji12_ then (if ji12_ < (l0_0.length : Int) then (if (rd l0_0 x10_3) ≤ (rd l0_0 ji12_) then (some false) else (impl_isFamily.l1 k5_ x10_3 (rd l0_0 x10_3) l0_0 (l0_0.length : Int) x10_3 l0_0 (l0_0.length : Int) 0 l0_0)) else (none)) else (none)) = some r := by first | (rw [hji12_] at H; exact H) | (simp only [hji12_] at H ⊢; exact H)
                have hji12_w : (IntKind.i64.wrap (x10_3 - 1)) = ji12_ := (i64_w _).trans hji12_
                (try rw [hji12_] at A9_)
                by_cases c13_ : 0 ≤ ji12_
                · rw [if_pos c13_] at H
                  have c13_b0 : decide (0 ≤ ji12_) = true := decide_eq_true c13_
                  clear c13_
                  by_cases c14_ : ji12_ < (l0_0.length : Int)
                  · rw [if_pos c14_] at H
                    have c14_b0 : decide (ji12_ < (l0_0.length : Int)) = true := decide_eq_true c14_
                    clear c14_
                    by_cases c15_ : (rd l0_0 x10_3) ≤ (rd l0_0 ji12_)
                    · rw [if_pos c15_] at H
                      have c15_b0 : decide ((rd l0_0 x10_3) ≤ (rd l0_0 ji12_)) = true := decide_eq_true c15_
                      clear c15_
                      obtain rfl := Option.some.inj H
                      have p149 : 0 ≤ (x10_3 : Int) := of_decide_eq_true (by first | (with_reducible assumption) | assumption)
                      have q149 : (x10_3 : Int) < (l0_0.length : Int) := of_decide_eq_true (by first | (with_reducible assumption) | assumption)
                      obtain ⟨ad149, e149, hx149⟩ := Kd.at_int HR0_0.out x10_3 p149 q149
                      cases e149
                      replace hx149 := (HM.out.below.cell (World.block_lt_of_cell? w _ hx149)).trans hx149
                      replace p149 := eq_true p149
                      replace q149 := eq_true q149
                      go_wp2_with (first | ((with_reducible refine gate_callee (f := 40) rfl ?_); (with_reducible refine gate_dst (N := 16) rfl ?_); refine goesL_ (some 16) rfl rfl Try.func40 (by kernel_rfl) rfl #[.int .i64 (rd l0_0 x10_3)] rfl (by (try simp only [List.map_toArray, List.map_cons, List.map_nil]); first | done | rfl | (simp only [List.length_drop, List.length_take]; rfl)) ?_; (with_reducible refine (impl_isSet.calls (rd l0_0 x10_3) true _  A9_.out).mono ?_); rintro e_ w16_ ⟨rfl, hd_⟩; refine ⟨_, rfl, ?_⟩; have hb := hd_.below; clear hd_; have n_ := Aside0.mk (HM.out.step hb); clear HM; have HM := n_; clear n_; clear hb; have hcz17_0 : w16_.cell? ⟨gb1, 0, none⟩ = some (.slice (some ad149) l0_0.length c0_0) := (blk_cell (HM.out.box 0 rfl) 0).trans rfl; have hfz17_0 := blk_frozen (HM.out.box 0 rfl) 0; have p151 : 0 ≤ (ji12_ : Int) := of_decide_eq_true (by first | (with_reducible assumption) | assumption); have q151 : (ji12_ : Int) < (l0_0.length : Int) := of_decide_eq_true (by first | (with_reducible assumption) | assumption); obtain ⟨ad151, e151, hx151⟩ := Kd.at_int HR0_0.out ji12_ p151 q151; obtain rfl : ad149 = ad151 := (by injection e151); replace hx151 := (HM.out.below.cell (World.block_lt_of_cell? w _ hx151)).trans hx151; replace p151 := eq_true p151; replace q151 := eq_true q151))
                      go_ret
                      exact ⟨by first | rfl | (simp; done) | (simp only [← hji12_] <;> (first | rfl | simp)) | (simp [*]; done), HM.out.below⟩
                    · rw [if_neg c15_] at H
                      have c15_b0 : decide ((rd l0_0 x10_3) ≤ (rd l0_0 ji12_)) = false := decide_eq_false c15_
                      clear c15_
                      have H' := Aside0.mk H
                      clear H
                      have p149 : 0 ≤ (x10_3 : Int) := of_decide_eq_true (by first | (with_reducible assumption) | assumption)
                      have q149 : (x10_3 : Int) < (l0_0.length : Int) := of_decide_eq_true (by first | (with_reducible assumption) | assumption)
                      obtain ⟨ad149, e149, hx149⟩ := Kd.at_int HR0_0.out x10_3 p149 q149
                      cases e149
                      replace hx149 := (HM.out.below.cell (World.block_lt_of_cell? w _ hx149)).trans hx149
                      replace p149 := eq_true p149
                      replace q149 := eq_true q149
                      go_wp2_with (first | ((with_reducible refine gate_callee (f := 40) rfl ?_); (with_reducible refine gate_dst (N := 16) rfl ?_); refine goesL_ (some 16) rfl rfl Try.func40 (by kernel_rfl) rfl #[.int .i64 (rd l0_0 x10_3)] rfl (by (try simp only [List.map_toArray, List.map_cons, List.map_nil]); first | done | rfl | (simp only [List.length_drop, List.length_take]; rfl)) ?_; (with_reducible refine (impl_isSet.calls (rd l0_0 x10_3) true _  A9_.out).mono ?_); rintro e_ w18_ ⟨rfl, hd_⟩; refine ⟨_, rfl, ?_⟩; have hb := hd_.below; clear hd_; have n_ := Aside0.mk (HM.out.step hb); clear HM; have HM := n_; clear n_; clear hb; have hcz19_0 : w18_.cell? ⟨gb1, 0, none⟩ = some (.slice (some ad149) l0_0.length c0_0) := (blk_cell (HM.out.box 0 rfl) 0).trans rfl; have hfz19_0 := blk_frozen (HM.out.box 0 rfl) 0; have p151 : 0 ≤ (ji12_ : Int) := of_decide_eq_true (by first | (with_reducible assumption) | assumption); have q151 : (ji12_ : Int) < (l0_0.length : Int) := of_decide_eq_true (by first | (with_reducible assumption) | assumption); obtain ⟨ad151, e151, hx151⟩ := Kd.at_int HR0_0.out ji12_ p151 q151; obtain rfl : ad149 = ad151 := (by injection e151); replace hx151 := (HM.out.below.cell (World.block_lt_of_cell? w _ hx151)).trans hx151; replace p151 := eq_true p151; replace q151 := eq_true q151))
                      go_loopg [35] k5_ (fun kq v35 w' => ∃ (x35_20 : Int), v35 = .int .i64 x35_20 ∧ Aside0 (impl_isFamily.l1 kq x10_3 (rd l0_0 x10_3) l0_0 (l0_0.length : Int) x10_3 l0_0 (l0_0.length : Int) x35_20 l0_0 = some r) ∧ Aside0 (kq ≤ k5_) ∧ Aside0 (MS w w' [.box gb1 24 #[.slice (some ad149) l0_0.length c0_0]]))
                      case atStart => exact ⟨(0), (by first | rfl | (simp; done) | (simp only [← hji12_] <;> (first | rfl | simp)) | (simp [*]; done)), H', ⟨Nat.le_refl _⟩, HM⟩
                      case round =>
                        clear H'
                        clear HM
                        obtain ⟨x35_20, rfl, HA, HK21_, HM⟩ := hrel
                        cases gk with
                        | zero => exact absurd HA.out (by simp [impl_isFamily.l1])
                        | succ k22_ =>
                          have H := HA.out
                          clear HA
                          simp only [impl_isFamily.l1] at H
                          by_cases c23_ : x35_20 < (l0_0.length : Int)
                          · rw [if_pos c23_] at H
                            have c23_b0 : decide (x35_20 < (l0_0.length : Int)) = true := decide_eq_true c23_
                            clear c23_
                            by_cases c24_ : 0 ≤ x35_20
                            · rw [if_pos c24_] at H
                              have c24_b0 : decide (0 ≤ x35_20) = true := decide_eq_true c24_
                              clear c24_
                              by_cases c25_ : x35_20 < (l0_0.length : Int)
                              · rw [if_pos c25_] at H
                                have c25_b0 : decide (x35_20 < (l0_0.length : Int)) = true := decide_eq_true c25_
                                clear c25_
                                by_cases c26_ : x35_20 = x10_3
                                · rw [if_pos c26_] at H
                                  have c26_b0 : (x35_20 == x10_3) = true := beq_iff_eq.mpr c26_
                                  have c26_b1 : (x35_20 != x10_3) = false := bne_eq_false_iff_eq.mpr c26_
                                  clear c26_
                                  have H' := Aside0.mk H
                                  clear H
                                  have p152 : 0 ≤ (x35_20 : Int) := of_decide_eq_true (by first | (with_reducible assumption) | assumption)
                                  have q152 : (x35_20 : Int) < (l0_0.length : Int) := of_decide_eq_true (by first | (with_reducible assumption) | assumption)
                                  obtain ⟨ad152, e152, hx152⟩ := Kd.at_int HR0_0.out x35_20 p152 q152
                                  obtain rfl : ad149 = ad152 := (by injection e152)
                                  replace hx152 := (HM.out.below.cell (World.block_lt_of_cell? w _ hx152)).trans hx152
                                  replace p152 := eq_true p152
                                  replace q152 := eq_true q152
                                  go_wp2
                                  go_roundg k22_
                                  case measure => have hHK4__ := HK4_.out; have hHK21__ := HK21_.out; omega
                                  case rel => exact ⟨(wrap64 (x35_20 + 1)), (by first | rfl | (simp; done) | (simp [*]; done)), H', ⟨by have hHK4__ := HK4_.out; have hHK21__ := HK21_.out; omega⟩, HM⟩
                                · rw [if_neg c26_] at H
                                  have c26_b0 : (x35_20 == x10_3) = false := beq_eq_false_iff_ne.mpr c26_
                                  have c26_b1 : (x35_20 != x10_3) = true := bne_iff_ne.mpr c26_
                                  clear c26_
                                  by_cases c27_ : (Go.bits .and .i64 (rd l0_0 x35_20) (rd l0_0 x10_3)) = (rd l0_0 x35_20)
                                  · rw [if_pos c27_] at H
                                    have c27_b0 : ((Go.bits .and .i64 (rd l0_0 x35_20) (rd l0_0 x10_3)) == (rd l0_0 x35_20)) = true := beq_iff_eq.mpr c27_
                                    have c27_b1 : ((Go.bits .and .i64 (rd l0_0 x35_20) (rd l0_0 x10_3)) != (rd l0_0 x35_20)) = false := bne_eq_false_iff_eq.mpr c27_
                                    clear c27_
                                    obtain rfl := Option.some.inj H
                                    have p152 : 0 ≤ (x35_20 : Int) := of_decide_eq_true (by first | (with_reducible assumption) | assumption)
                                    have q152 : (x35_20 : Int) < (l0_0.length : Int) := of_decide_eq_true (by first | (with_reducible assumption) | assumption)
                                    obtain ⟨ad152, e152, hx152⟩ := Kd.at_int HR0_0.out x35_20 p152 q152
                                    obtain rfl : ad149 = ad152 := (by injection e152)
                                    replace hx152 := (HM.out.below.cell (World.block_lt_of_cell? w _ hx152)).trans hx152
                                    replace p152 := eq_true p152
                                    replace q152 := eq_true q152
                                    go_wp2
                                    go_ret
                                    exact ⟨by first | rfl | (simp; done) | (simp [*]; done), HM.out.below⟩
                                  · rw [if_neg c27_] at H
                                    have c27_b0 : ((Go.bits .and .i64 (rd l0_0 x35_20) (rd l0_0 x10_3)) == (rd l0_0 x35_20)) = false := beq_eq_false_iff_ne.mpr c27_
                                    have c27_b1 : ((Go.bits .and .i64 (rd l0_0 x35_20) (rd l0_0 x10_3)) != (rd l0_0 x35_20)) = true := bne_iff_ne.mpr c27_
                                    clear c27_
                                    have H' := Aside0.mk H
                                    clear H
                                    have p152 : 0 ≤ (x35_20 : Int) := of_decide_eq_true (by first | (with_reducible assumption) | assumption)
                                    have q152 : (x35_20 : Int) < (l0_0.length : Int) := of_decide_eq_true (by first | (with_reducible assumption) | assumption)
                                    obtain ⟨ad152, e152, hx152⟩ := Kd.at_int HR0_0.out x35_20 p152 q152
                                    obtain rfl : ad149 = ad152 := (by injection e152)
                                    replace hx152 := (HM.out.below.cell (World.block_lt_of_cell? w _ hx152)).trans hx152
                                    replace p152 := eq_true p152
                                    replace q152 := eq_true q152
                                    go_wp2
                                    go_roundg k22_
                                    case measure => have hHK4__ := HK4_.out; have hHK21__ := HK21_.out; omega
                                    case rel => exact ⟨(wrap64 (x35_20 + 1)), (by first | rfl | (simp; done) | (simp [*]; done)), H', ⟨by have hHK4__ := HK4_.out; have hHK21__ := HK21_.out; omega⟩, HM⟩
                              · rw [if_neg c25_] at H
                                have c25_b0 : decide (x35_20 < (l0_0.length : Int)) = false := decide_eq_false c25_
                                clear c25_
                                exact absurd H (by simp)
                            · rw [if_neg c24_] at H
                              have c24_b0 : decide (0 ≤ x35_20) = false := decide_eq_false c24_
                              clear c24_
                              exact absurd H (by simp)
                          · rw [if_neg c23_] at H
                            have c23_b0 : decide (x35_20 < (l0_0.length : Int)) = false := decide_eq_false c23_
                            clear c23_
                            have H' := Aside0.mk H
                            clear H
                            go_wp2
                            go_roundg k22_
                            case measure => have hHK4__ := HK4_.out; have hHK21__ := HK21_.out; omega
                            case rel => exact ⟨(wrap64 (x10_3 + 1)), (by first | rfl | (simp; done) | (simp [*]; done)), H', ⟨by have hHK4__ := HK4_.out; have hHK21__ := HK21_.out; omega⟩, HM⟩
                  · rw [if_neg c14_] at H
                    have c14_b0 : decide (ji12_ < (l0_0.length : Int)) = false := decide_eq_false c14_
                    clear c14_
                    exact absurd H (by simp)
                · rw [if_neg c13_] at H
                  have c13_b0 : decide (0 ≤ ji12_) = false := decide_eq_false c13_
                  clear c13_
                  exact absurd H (by simp)
              · rw [if_neg c11_] at H
                have c11_b0 : decide (0 < x10_3) = false := decide_eq_false c11_
                clear c11_
                have H' := Aside0.mk H
                clear H
                have p149 : 0 ≤ (x10_3 : Int) := of_decide_eq_true (by first | (with_reducible assumption) | assumption)
                have q149 : (x10_3 : Int) < (l0_0.length : Int) := of_decide_eq_true (by first | (with_reducible assumption) | assumption)
                obtain ⟨ad149, e149, hx149⟩ := Kd.at_int HR0_0.out x10_3 p149 q149
                cases e149
                replace hx149 := (HM.out.below.cell (World.block_lt_of_cell? w _ hx149)).trans hx149
                replace p149 := eq_true p149
                replace q149 := eq_true q149
                go_wp2_with (first | ((with_reducible refine gate_callee (f := 40) rfl ?_); (with_reducible refine gate_dst (N := 16) rfl ?_); refine goesL_ (some 16) rfl rfl Try.func40 (by kernel_rfl) rfl #[.int .i64 (rd l0_0 x10_3)] rfl (by (try simp only [List.map_toArray, List.map_cons, List.map_nil]); first | done | rfl | (simp only [List.length_drop, List.length_take]; rfl)) ?_; (with_reducible refine (impl_isSet.calls (rd l0_0 x10_3) true _  A9_.out).mono ?_); rintro e_ w28_ ⟨rfl, hd_⟩; refine ⟨_, rfl, ?_⟩; have hb := hd_.below; clear hd_; have n_ := Aside0.mk (HM.out.step hb); clear HM; have HM := n_; clear n_; clear hb; have hcz29_0 : w28_.cell? ⟨gb1, 0, none⟩ = some (.slice (some ad149) l0_0.length c0_0) := (blk_cell (HM.out.box 0 rfl) 0).trans rfl; have hfz29_0 := blk_frozen (HM.out.box 0 rfl) 0))
                go_loopg [35] k5_ (fun kq v35 w' => ∃ (x35_30 : Int), v35 = .int .i64 x35_30 ∧ Aside0 (impl_isFamily.l1 kq x10_3 (rd l0_0 x10_3) l0_0 (l0_0.length : Int) x10_3 l0_0 (l0_0.length : Int) x35_30 l0_0 = some r) ∧ Aside0 (kq ≤ k5_) ∧ Aside0 (MS w w' [.box gb1 24 #[.slice (some ad149) l0_0.length c0_0]]))
                case atStart => exact ⟨(0), (by first | rfl | (simp; done) | (simp [*]; done)), H', ⟨Nat.le_refl _⟩, HM⟩
                case round =>
                  clear H'
                  clear HM
                  obtain ⟨x35_30, rfl, HA, HK31_, HM⟩ := hrel
                  cases gk with
                  | zero => exact absurd HA.out (by simp [impl_isFamily.l1])
                  | succ k32_ =>
                    have H := HA.out
                    clear HA
                    simp only [impl_isFamily.l1] at H
                    by_cases c33_ : x35_30 < (l0_0.length : Int)
                    · rw [if_pos c33_] at H
                      have c33_b0 : decide (x35_30 < (l0_0.length : Int)) = true := decide_eq_true c33_
                      clear c33_
                      by_cases c34_ : 0 ≤ x35_30
                      · rw [if_pos c34_] at H
                        have c34_b0 : decide (0 ≤ x35_30) = true := decide_eq_true c34_
                        clear c34_
                        by_cases c35_ : x35_30 < (l0_0.length : Int)
                        · rw [if_pos c35_] at H
                          have c35_b0 : decide (x35_30 < (l0_0.length : Int)) = true := decide_eq_true c35_
                          clear c35_
                          by_cases c36_ : x35_30 = x10_3
                          · rw [if_pos c36_] at H
                            have c36_b0 : (x35_30 == x10_3) = true := beq_iff_eq.mpr c36_
                            have c36_b1 : (x35_30 != x10_3) = false := bne_eq_false_iff_eq.mpr c36_
                            clear c36_
                            have H' := Aside0.mk H
                            clear H
                            have p152 : 0 ≤ (x35_30 : Int) := of_decide_eq_true (by first | (with_reducible assumption) | assumption)
                            have q152 : (x35_30 : Int) < (l0_0.length : Int) := of_decide_eq_true (by first | (with_reducible assumption) | assumption)
                            obtain ⟨ad152, e152, hx152⟩ := Kd.at_int HR0_0.out x35_30 p152 q152
                            obtain rfl : ad149 = ad152 := (by injection e152)
                            replace hx152 := (HM.out.below.cell (World.block_lt_of_cell? w _ hx152)).trans hx152
                            replace p152 := eq_true p152
                            replace q152 := eq_true q152
                            go_wp2
                            go_roundg k32_
                            case measure => have hHK4__ := HK4_.out; have hHK31__ := HK31_.out; omega
                            case rel => exact ⟨(wrap64 (x35_30 + 1)), (by first | rfl | (simp; done) | (simp [*]; done)), H', ⟨by have hHK4__ := HK4_.out; have hHK31__ := HK31_.out; omega⟩, HM⟩
                          · rw [if_neg c36_] at H
                            have c36_b0 : (x35_30 == x10_3) = false := beq_eq_false_iff_ne.mpr c36_
                            have c36_b1 : (x35_30 != x10_3) = true := bne_iff_ne.mpr c36_
                            clear c36_
                            by_cases c37_ : (Go.bits .and .i64 (rd l0_0 x35_30) (rd l0_0 x10_3)) = (rd l0_0 x35_30)
                            · rw [if_pos c37_] at H
                              have c37_b0 : ((Go.bits .and .i64 (rd l0_0 x35_30) (rd l0_0 x10_3)) == (rd l0_0 x35_30)) = true := beq_iff_eq.mpr c37_
                              have c37_b1 : ((Go.bits .and .i64 (rd l0_0 x35_30) (rd l0_0 x10_3)) != (rd l0_0 x35_30)) = false := bne_eq_false_iff_eq.mpr c37_
                              clear c37_
                              obtain rfl := Option.some.inj H
                              have p152 : 0 ≤ (x35_30 : Int) := of_decide_eq_true (by first | (with_reducible assumption) | assumption)
                              have q152 : (x35_30 : Int) < (l0_0.length : Int) := of_decide_eq_true (by first | (with_reducible assumption) | assumption)
                              obtain ⟨ad152, e152, hx152⟩ := Kd.at_int HR0_0.out x35_30 p152 q152
                              obtain rfl : ad149 = ad152 := (by injection e152)
                              replace hx152 := (HM.out.below.cell (World.block_lt_of_cell? w _ hx152)).trans hx152
                              replace p152 := eq_true p152
                              replace q152 := eq_true q152
                              go_wp2
                              go_ret
                              exact ⟨by first | rfl | (simp; done) | (simp [*]; done), HM.out.below⟩
                            · rw [if_neg c37_] at H
                              have c37_b0 : ((Go.bits .and .i64 (rd l0_0 x35_30) (rd l0_0 x10_3)) == (rd l0_0 x35_30)) = false := beq_eq_false_iff_ne.mpr c37_
                              have c37_b1 : ((Go.bits .and .i64 (rd l0_0 x35_30) (rd l0_0 x10_3)) != (rd l0_0 x35_30)) = true := bne_iff_ne.mpr c37_
                              clear c37_
                              have H' := Aside0.mk H
                              clear H
                              have p152 : 0 ≤ (x35_30 : Int) := of_decide_eq_true (by first | (with_reducible assumption) | assumption)
                              have q152 : (x35_30 : Int) < (l0_0.length : Int) := of_decide_eq_true (by first | (with_reducible assumption) | assumption)
                              obtain ⟨ad152, e152, hx152⟩ := Kd.at_int HR0_0.out x35_30 p152 q152
                              obtain rfl : ad149 = ad152 := (by injection e152)
                              replace hx152 := (HM.out.below.cell (World.block_lt_of_cell? w _ hx152)).trans hx152
                              replace p152 := eq_true p152
                              replace q152 := eq_true q152
                              go_wp2
                              go_roundg k32_
                              case measure => have hHK4__ := HK4_.out; have hHK31__ := HK31_.out; omega
                              case rel => exact ⟨(wrap64 (x35_30 + 1)), (by first | rfl | (simp; done) | (simp [*]; done)), H', ⟨by have hHK4__ := HK4_.out; have hHK31__ := HK31_.out; omega⟩, HM⟩
                        · rw [if_neg c35_] at H
                          have c35_b0 : decide (x35_30 < (l0_0.length : Int)) = false := decide_eq_false c35_
                          clear c35_
                          exact absurd H (by simp)
                      · rw [if_neg c34_] at H
                        have c34_b0 : decide (0 ≤ x35_30) = false := decide_eq_false c34_
                        clear c34_
                        exact absurd H (by simp)
                    · rw [if_neg c33_] at H
                      have c33_b0 : decide (x35_30 < (l0_0.length : Int)) = false := decide_eq_false c33_
                      clear c33_
                      have H' := Aside0.mk H
                      clear H
                      go_wp2
                      go_roundg k32_
                      case measure => have hHK4__ := HK4_.out; have hHK31__ := HK31_.out; omega
                      case rel => exact ⟨(wrap64 (x10_3 + 1)), (by first | rfl | (simp; done) | (simp [*]; done)), H', ⟨by have hHK4__ := HK4_.out; have hHK31__ := HK31_.out; omega⟩, HM⟩
            · replace c10_ := Bool.eq_false_iff.mpr c10_
              subst c10_
              have H1 : (some false) = some r := by rw [if_neg (show ¬ (false = true) by decide)] at H; exact H
              clear H
              have H := H1
              clear H1
              obtain rfl := Option.some.inj H
              have p149 : 0 ≤ (x10_3 : Int) := of_decide_eq_true (by first | (with_reducible assumption) | assumption)
              have q149 : (x10_3 : Int) < (l0_0.length : Int) := of_decide_eq_true (by first | (with_reducible assumption) | assumption)
              obtain ⟨ad149, e149, hx149⟩ := Kd.at_int HR0_0.out x10_3 p149 q149
              cases e149
              replace hx149 := (HM.out.below.cell (World.block_lt_of_cell? w _ hx149)).trans hx149
              replace p149 := eq_true p149
              replace q149 := eq_true q149
              go_wp2_with (first | ((with_reducible refine gate_callee (f := 40) rfl ?_); (with_reducible refine gate_dst (N := 16) rfl ?_); refine goesL_ (some 16) rfl rfl Try.func40 (by kernel_rfl) rfl #[.int .i64 (rd l0_0 x10_3)] rfl (by (try simp only [List.map_toArray, List.map_cons, List.map_nil]); first | done | rfl | (simp only [List.length_drop, List.length_take]; rfl)) ?_; (with_reducible refine (impl_isSet.calls (rd l0_0 x10_3) false _  A9_.out).mono ?_); rintro e_ w38_ ⟨rfl, hd_⟩; refine ⟨_, rfl, ?_⟩; have hb := hd_.below; clear hd_; have n_ := Aside0.mk (HM.out.step hb); clear HM; have HM := n_; clear n_; clear hb))
              go_ret
              exact ⟨by first | rfl | (simp; done) | (simp [*]; done), HM.out.below⟩
          · rw [if_neg c8_] at H
            have c8_b0 : decide (x10_3 < (l0_0.length : Int)) = false := decide_eq_false c8_
            clear c8_
            exact absurd H (by simp)
        · rw [if_neg c7_] at H
          have c7_b0 : decide (0 ≤ x10_3) = false := decide_eq_false c7_
          clear c7_
          exact absurd H (by simp)
      · rw [if_neg c6_] at H
        have c6_b0 : decide (x10_3 < (l0_0.length : Int)) = false := decide_eq_false c6_
        clear c6_
        obtain rfl := Option.some.inj H
        go_wp2
        go_ret
        exact ⟨by first | rfl | (simp; done) | (simp [*]; done), HM.out.below⟩

/-! ### impl_FixFamily_1: function 53 -/
def impl_FixFamily_1.f (k : Nat) (a0 : Int) (l1_0 : List Int) (a2 : Int) : Option (Bool) := (impl_Family_has.f k l1_0 (Go.bits .andNot .i64 a0 a2)).bind fun t153 => (some t153)
set_option maxHeartbeats 8000000 in
set_option maxRecDepth 100000 in
theorem impl_FixFamily_1.calls (k : Nat) (a0 : Int) (gb1 : Nat) (A1_0 : Option Addr) (c1_0 : Nat) (l1_0 : List Int) (gb2 : Nat) (a2 : Int) (r : Bool) (w : World) (hr1_0 : Kd.C (Kd.int .i64) w A1_0 l1_0.length l1_0) (hc1_0 : l1_0.length ≤ c1_0) (hq1 : w.heap[gb1]? = some (.cells #[.slice A1_0 l1_0.length c1_0] 24 (0, 0))) (hq2 : w.heap[gb2]? = some (.cells #[.int .i64 a2] 3 (0, 0))) (h : impl_FixFamily_1.f k a0 l1_0 a2 = some r) :
    Calls Try.prog 53 #[.int .i64 a0, .pointer (some ⟨gb1, 0, none⟩), .pointer (some ⟨gb2, 0, none⟩)] w fun e w' => e = .returned (.bool r) ∧ Below w.heap.size w w' := by
  have HR1_0 := Aside0.mk hr1_0
  have HC1_0 := Aside0.mk hc1_0
  clear hr1_0 hc1_0
  have HQ1 := Aside0.mk hq1
  clear hq1
  have HQ2 := Aside0.mk hq2
  clear hq2
  have hu24 := Try.underlying24
  have HM := Aside0.mk (MS.start w)
  have H : ((impl_Family_has.f k l1_0 (Go.bits .andNot .i64 a0 a2)).bind fun t153 => (some t153)) = some r := h
  clear h
  replace H := Option.bind_eq_some_iff.mp H
  obtain ⟨t153, A1_0, H⟩ := H
  replace H : (some t153) = some r := H
  have A1_ := Aside0.mk A1_0
  clear A1_0
  obtain rfl := Option.some.inj H
  have hcz2_0 : w.cell? ⟨gb1, 0, none⟩ = some (.slice A1_0 l1_0.length c1_0) := (blk_cell (blk_below HQ1.out HM.out.below) 0).trans rfl
  have hfz2_0 := blk_frozen (blk_below HQ1.out HM.out.below) 0
  have hcz3_0 : w.cell? ⟨gb2, 0, none⟩ = some (.int .i64 a2) := (blk_cell (blk_below HQ2.out HM.out.below) 0).trans rfl
  have hfz3_0 := blk_frozen (blk_below HQ2.out HM.out.below) 0
  go_enter Try.func53, Try.ntmps53
  go_wp2_with (first | ((with_reducible refine gate_callee (f := 42) rfl ?_); (with_reducible refine gate_dst (N := 9) rfl ?_); refine goesL_ (some 9) rfl rfl Try.func42 (by kernel_rfl) rfl #[.agg #[.slice A1_0 l1_0.length c1_0], .int .i64 (Go.bits .andNot .i64 a0 a2)] rfl (by (try simp only [List.map_toArray, List.map_cons, List.map_nil]); first | done | rfl | (simp only [List.length_drop, List.length_take]; rfl)) ?_; (with_reducible refine (impl_Family_has.calls k _ _ l1_0 (Go.bits .andNot .i64 a0 a2) t153 _ ?sd0 ?sd1 A1_.out).mono ?_); (case sd0 => exact (Kd.C_below HR1_0.out HM.out.below)); (case sd1 => exact HC1_0.out); rintro e_ w4_ ⟨rfl, hb⟩; refine ⟨_, rfl, ?_⟩; have n_ := Aside0.mk (HM.out.step hb); clear HM; have HM := n_; clear n_; clear hb))
  go_ret
  exact ⟨by first | rfl | (simp; done) | (simp [*]; done), HM.out.below⟩

/-! ### impl_FixFamily: function 24 -/
def impl_FixFamily.f (k : Nat) (l0_0 : List Int) (a1 : Int) : Option (List Int × Bool) := (impl_isFamily.f k l0_0).bind fun t154 => (if t154 = true then ((impl_isSet.f a1).bind fun t155 => (if t155 = true then ((impl_familyOf.f k (fun x_ => impl_FixFamily_1.f k x_ l0_0 a1)).bind fun t157 => (some (t157, true))) else (some ([], false)))) else (some ([], false)))
set_option maxHeartbeats 8000000 in
set_option maxRecDepth 100000 in
theorem impl_FixFamily.calls (k : Nat) (A0_0 : Option Addr) (c0_0 : Nat) (l0_0 : List Int) (a1 : Int) (r1 : List Int) (r2 : Bool) (w : World) (hr0_0 : Kd.C (Kd.int .i64) w A0_0 l0_0.length l0_0) (hc0_0 : l0_0.length ≤ c0_0) (h : impl_FixFamily.f k l0_0 a1 = some (r1, r2)) :
    Calls Try.prog 24 #[.agg #[.slice A0_0 l0_0.length c0_0], .int .i64 a1] w fun e w' => ∃ v0_ : Value, e = .returned (.tuple #[.agg #[v0_], .bool r2]) ∧ Kd.R (Kd.int .i64) 3 w' w.heap.size (fun _ => True) v0_ r1 ∧ Below w.heap.size w w' := by
  have HR0_0 := Aside0.mk hr0_0
  have HC0_0 := Aside0.mk hc0_0
  clear hr0_0 hc0_0
  have hu24 := Try.underlying24
  have HM := Aside0.mk (MS.start w)
  have H : ((impl_isFamily.f k l0_0).bind fun t154 => (if t154 = true then ((impl_isSet.f a1).bind fun t155 => (if t155 = true then ((impl_familyOf.f k (fun x_ => impl_FixFamily_1.f k x_ l0_0 a1)).bind fun t157 => (some (t157, true))) else (some ([], false)))) else (some ([], false)))) = some (r1, r2) := h
  clear h
  replace H := Option.bind_eq_some_iff.mp H
  obtain ⟨t154, A1_0, H⟩ := H
  replace H : (if t154 = true then ((impl_isSet.f a1).bind fun t155 => (if t155 = true then ((impl_familyOf.f k (fun x_ => impl_FixFamily_1.f k x_ l0_0 a1)).bind fun t157 => (some (t157, true))) else (some ([], false)))) else (some ([], false))) = some (r1, r2) := H
  have A1_ := Aside0.mk A1_0
  clear A1_0
  by_cases c2_ : t154 = true
  · subst c2_
    have H1 : ((impl_isSet.f a1).bind fun t155 => (if t155 = true then ((impl_familyOf.f k (fun x_ => impl_FixFamily_1.f k x_ l0_0 a1)).bind fun t157 => (some (t157, true))) else (some ([], false)))) = some (r1, r2) := by rw [if_pos rfl] at H; exact H
    clear H
    have H := H1
    clear H1
    replace H := Option.bind_eq_some_iff.mp H
    obtain ⟨t155, A3_0, H⟩ := H
    replace H : (if t155 = true then ((impl_familyOf.f k (fun x_ => impl_FixFamily_1.f k x_ l0_0 a1)).bind fun t157 => (some (t157, true))) else (some ([], false))) = some (r1, r2) := H
    have A3_ := Aside0.mk A3_0
    clear A3_0
    by_cases c4_ : t155 = true
    · subst c4_
      have H1 : ((impl_familyOf.f k (fun x_ => impl_FixFamily_1.f k x_ l0_0 a1)).bind fun t157 => (some (t157, true))) = some (r1, r2) := by rw [if_pos rfl] at H; exact H
      clear H
      have H := H1
      clear H1
      replace H := Option.bind_eq_some_iff.mp H
      obtain ⟨t157, A5_0, H⟩ := H
      replace H : (some (t157, true)) = some (r1, r2) := H
      have A5_ := Aside0.mk A5_0
      clear A5_0
      simp only [Option.some.injEq, Prod.mk.injEq] at H
      obtain ⟨rfl, rfl⟩ := H
      go_enter Try.func24, Try.ntmps24
      go_wp2_with (first | ((with_reducible refine gate_dst (N := 2) rfl ?_); refine box_event ?hg (N := 2) ?hd (cs := #[.slice A0_0 l0_0.length c0_0]) (t := 24) ?hr ?_; (case hd => rfl); (case hg => rfl); (case hr => first | (go_simp; done) | (go_simp; rfl)); intro gb1 hg w6_ hbox hb; have n_ := Aside0.mk (HM.out.addBox hb hbox hg); clear HM; have HM := n_; clear n_; clear hb hbox hg) | ((with_reducible refine gate_dst (N := 3) rfl ?_); refine box_event ?hg (N := 3) ?hd (cs := #[.int .i64 a1]) (t := 3) ?hr ?_; (case hd => rfl); (case hg => rfl); (case hr => first | (go_simp; done) | (go_simp; rfl)); intro gb2 hg w7_ hbox hb; have n_ := Aside0.mk (HM.out.addBox hb hbox hg); clear HM; have HM := n_; clear n_; clear hb hbox hg) | ((with_reducible refine gate_dst (N := 4) rfl ?_); refine box_event ?hg (N := 4) ?hd (cs := #[.slice none 0 0]) (t := 24) ?hr ?_; (case hd => rfl); (case hg => rfl); (case hr => first | (go_simp; done) | (go_simp; rfl)); intro gb3 hg w8_ hbox hb; have n_ := Aside0.mk (HM.out.addBox hb hbox hg); clear HM; have HM := n_; clear n_; clear hb hbox hg; have hcz9_0 : w8_.cell? ⟨gb1, 0, none⟩ = some (.slice A0_0 l0_0.length c0_0) := (blk_cell (HM.out.box 2 rfl) 0).trans rfl; have hfz9_0 := blk_frozen (HM.out.box 2 rfl) 0) | ((with_reducible refine gate_callee (f := 52) rfl ?_); (with_reducible refine gate_dst (N := 7) rfl ?_); refine goesL_ (some 7) rfl rfl Try.func52 (by kernel_rfl) rfl #[.agg #[.slice A0_0 l0_0.length c0_0]] rfl (by (try simp only [List.map_toArray, List.map_cons, List.map_nil]); first | done | rfl | (simp only [List.length_drop, List.length_take]; rfl)) ?_; (with_reducible refine (impl_isFamily.calls k _ _ l0_0 true _ ?sd0 ?sd1 A1_.out).mono ?_); (case sd0 => exact (Kd.C_below HR0_0.out HM.out.below)); (case sd1 => exact HC0_0.out); rintro e_ w10_ ⟨rfl, hb⟩; refine ⟨_, rfl, ?_⟩; have n_ := Aside0.mk (HM.out.step hb); clear HM; have HM := n_; clear n_; clear hb; have hcz11_0 : w10_.cell? ⟨gb2, 0, none⟩ = some (.int .i64 a1) := (blk_cell (HM.out.box 1 rfl) 0).trans rfl; have hfz11_0 := blk_frozen (HM.out.box 1 rfl) 0) | (go_at_call 40; (refine calls_of_args (args' := #[.int .i64 a1]) (by first | done | rfl) ?_); (with_reducible refine (impl_isSet.calls a1 true _  A3_.out).mono ?_); rintro e_ w12_ ⟨rfl, hd_⟩; have hb := hd_.below; clear hd_; have n_ := Aside0.mk (HM.out.step hb); clear HM; have HM := n_; clear n_; clear hb; have fv156 := Aside0.mk (show FnB Try.prog w12_ (.func (.func 53) #[] #[.pointer (some ⟨gb1, 0, none⟩), .pointer (some ⟨gb2, 0, none⟩)]) (fun x_ => impl_FixFamily_1.f k x_ l0_0 a1) from FnB.mk Try.func53 rfl rfl (fun W_ hW_ x_ r_ hr_ => (show Calls Try.prog 53 #[.int .i64 x_, .pointer (some ⟨gb1, 0, none⟩), .pointer (some ⟨gb2, 0, none⟩)] W_ _ from impl_FixFamily_1.calls k x_ _ _ _ l0_0 _ a1 r_ W_ (Kd.C_below HR0_0.out (below_step HM.out.below hW_)) HC0_0.out (blk_below (HM.out.box 2 rfl) hW_) (blk_below (HM.out.box 1 rfl) hW_) hr_)))) | ((with_reducible refine gate_callee (f := 41) rfl ?_); (with_reducible refine gate_dst (N := 16) rfl ?_); refine goesL_ (some 16) rfl rfl Try.func41 (by kernel_rfl) rfl #[.func (.func 53) #[] #[.pointer (some ⟨gb1, 0, none⟩), .pointer (some ⟨gb2, 0, none⟩)]] rfl (by (try simp only [List.map_toArray, List.map_cons, List.map_nil]); first | done | rfl | (simp only [List.length_drop, List.length_take]; rfl)) ?_; (with_reducible refine (impl_familyOf.calls k _ (fun x_ => impl_FixFamily_1.f k x_ l0_0 a1) t157 _ ?sd0 A5_.out).mono ?_); (case sd0 => exact fv156.out); rintro e_ w13_ ⟨vv0_, rfl, ho0_, hb⟩; refine ⟨_, rfl, ?_⟩; obtain ⟨Ao4_0, co4_0, ev_⟩ := Kd.R_slice ho0_; subst ev_; have n_ := Aside0.mk (HM.out.addR hb ho0_); clear HM; have HM := n_; clear n_; clear hb ho0_; have hcz15_0 : w13_.cell? ⟨gb3, 0, none⟩ = some (.slice none 0 0) := (blk_cell (HM.out.box 1 rfl) 0).trans rfl; have hfz15_0 := blk_frozen (HM.out.box 1 rfl) 0) | ((with_reducible refine gate_store (t := 24) (p := 4) rfl ?_); refine store_event (t := 24) (p := 4) (v := ?vow14_) (w1 := (w13_.setCell ⟨gb3, 0, none⟩ (.slice Ao4_0 t157.length co4_0))) ?hg ?ho ?hn ?hr ?_; (case ho => rfl); (case hg => rfl); (case hn => rfl); (case hr => first | (go_simp; done) | (go_simp; rfl)); intro w14_ hw; have n_ : Aside0 (MS w w14_ [.row 3 (.slice Ao4_0 t157.length co4_0) (encs (Value.int .i64) t157), .box gb3 24 #[.slice Ao4_0 t157.length co4_0], .box gb2 3 #[.int .i64 a1], .box gb1 24 #[.slice A0_0 l0_0.length c0_0]]) := ⟨by rw [hw]; exact HM.out.setBox 1 rfl _ _ rfl⟩; clear HM hw; have HM := n_; clear n_))
      refine bodyPost_ret (results_ct rfl _ _ gb3 24 #[.slice Ao4_0 t157.length co4_0] (0, 0) _ rfl (HM.out.box 1 rfl) Try.underlying24 rfl (by kernel_rfl)) rfl ?_
      exact ⟨_, by first | rfl | (simp; done) | (simp [*]; done), HM.out.R 0 rfl, HM.out.below⟩
    · replace c4_ := Bool.eq_false_iff.mpr c4_
      subst c4_
      have H1 : (some ([], false)) = some (r1, r2) := by rw [if_neg (show ¬ (false = true) by decide)] at H; exact H
      clear H
      have H := H1
      clear H1
      simp only [Option.some.injEq, Prod.mk.injEq] at H
      obtain ⟨rfl, rfl⟩ := H
      go_enter Try.func24, Try.ntmps24
      go_wp2_with (first | ((with_reducible refine gate_dst (N := 2) rfl ?_); refine box_event ?hg (N := 2) ?hd (cs := #[.slice A0_0 l0_0.length c0_0]) (t := 24) ?hr ?_; (case hd => rfl); (case hg => rfl); (case hr => first | (go_simp; done) | (go_simp; rfl)); intro gb1 hg w16_ hbox hb; have n_ := Aside0.mk (HM.out.addBox hb hbox hg); clear HM; have HM := n_; clear n_; clear hb hbox hg) | ((with_reducible refine gate_dst (N := 3) rfl ?_); refine box_event ?hg (N := 3) ?hd (cs := #[.int .i64 a1]) (t := 3) ?hr ?_; (case hd => rfl); (case hg => rfl); (case hr => first | (go_simp; done) | (go_simp; rfl)); intro gb2 hg w17_ hbox hb; have n_ := Aside0.mk (HM.out.addBox hb hbox hg); clear HM; have HM := n_; clear n_; clear hb hbox hg) | ((with_reducible refine gate_dst (N := 4) rfl ?_); refine box_event ?hg (N := 4) ?hd (cs := #[.slice none 0 0]) (t := 24) ?hr ?_; (case hd => rfl); (case hg => rfl); (case hr => first | (go_simp; done) | (go_simp; rfl)); intro gb3 hg w18_ hbox hb; have n_ := Aside0.mk (HM.out.addBox hb hbox hg); clear HM; have HM := n_; clear n_; clear hb hbox hg; have hcz19_0 : w18_.cell? ⟨gb1, 0, none⟩ = some (.slice A0_0 l0_0.length c0_0) := (blk_cell (HM.out.box 2 rfl) 0).trans rfl; have hfz19_0 := blk_frozen (HM.out.box 2 rfl) 0) | ((with_reducible refine gate_callee (f := 52) rfl ?_); (with_reducible refine gate_dst (N := 7) rfl ?_); refine goesL_ (some 7) rfl rfl Try.func52 (by kernel_rfl) rfl #[.agg #[.slice A0_0 l0_0.length c0_0]] rfl (by (try simp only [List.map_toArray, List.map_cons, List.map_nil]); first | done | rfl | (simp only [List.length_drop, List.length_take]; rfl)) ?_; (with_reducible refine (impl_isFamily.calls k _ _ l0_0 true _ ?sd0 ?sd1 A1_.out).mono ?_); (case sd0 => exact (Kd.C_below HR0_0.out HM.out.below)); (case sd1 => exact HC0_0.out); rintro e_ w20_ ⟨rfl, hb⟩; refine ⟨_, rfl, ?_⟩; have n_ := Aside0.mk (HM.out.step hb); clear HM; have HM := n_; clear n_; clear hb; have hcz21_0 : w20_.cell? ⟨gb2, 0, none⟩ = some (.int .i64 a1) := (blk_cell (HM.out.box 1 rfl) 0).trans rfl; have hfz21_0 := blk_frozen (HM.out.box 1 rfl) 0) | (go_at_call 40; (refine calls_of_args (args' := #[.int .i64 a1]) (by first | done | rfl) ?_); (with_reducible refine (impl_isSet.calls a1 false _  A3_.out).mono ?_); rintro e_ w22_ ⟨rfl, hd_⟩; have hb := hd_.below; clear hd_; have n_ := Aside0.mk (HM.out.step hb); clear HM; have HM := n_; clear n_; clear hb; have hcz24_0 : w22_.cell? ⟨gb3, 0, none⟩ = some (.slice none 0 0) := (blk_cell (HM.out.box 0 rfl) 0).trans rfl; have hfz24_0 := blk_frozen (HM.out.box 0 rfl) 0) | ((with_reducible refine gate_store (t := 24) (p := 4) rfl ?_); refine store_event (t := 24) (p := 4) (v := ?vow23_) (w1 := (w22_.setCell ⟨gb3, 0, none⟩ (.slice none 0 0))) ?hg ?ho ?hn ?hr ?_; (case ho => rfl); (case hg => rfl); (case hn => rfl); (case hr => first | (go_simp; done) | (go_simp; rfl)); intro w23_ hw; have n_ : Aside0 (MS w w23_ [.box gb3 24 #[.slice none 0 0], .box gb2 3 #[.int .i64 a1], .box gb1 24 #[.slice A0_0 l0_0.length c0_0]]) := ⟨by rw [hw]; exact HM.out.setBox 0 rfl _ _ rfl⟩; clear HM hw; have HM := n_; clear n_))
      refine bodyPost_ret (results_ct rfl _ _ gb3 24 #[.slice none 0 0] (0, 0) _ rfl (HM.out.box 0 rfl) Try.underlying24 rfl (by kernel_rfl)) rfl ?_
      exact ⟨_, by first | rfl | (simp; done) | (simp [*]; done), Kd.R_nil _ _ _ _ _, HM.out.below⟩
  · replace c2_ := Bool.eq_false_iff.mpr c2_
    subst c2_
    have H1 : (some ([], false)) = some (r1, r2) := by rw [if_neg (show ¬ (false = true) by decide)] at H; exact H
    clear H
    have H := H1
    clear H1
    simp only [Option.some.injEq, Prod.mk.injEq] at H
    obtain ⟨rfl, rfl⟩ := H
    go_enter Try.func24, Try.ntmps24
    go_wp2_with (first | ((with_reducible refine gate_dst (N := 2) rfl ?_); refine box_event ?hg (N := 2) ?hd (cs := #[.slice A0_0 l0_0.length c0_0]) (t := 24) ?hr ?_; (case hd => rfl); (case hg => rfl); (case hr => first | (go_simp; done) | (go_simp; rfl)); intro gb1 hg w25_ hbox hb; have n_ := Aside0.mk (HM.out.addBox hb hbox hg); clear HM; have HM := n_; clear n_; clear hb hbox hg) | ((with_reducible refine gate_dst (N := 3) rfl ?_); refine box_event ?hg (N := 3) ?hd (cs := #[.int .i64 a1]) (t := 3) ?hr ?_; (case hd => rfl); (case hg => rfl); (case hr => first | (go_simp; done) | (go_simp; rfl)); intro gb2 hg w26_ hbox hb; have n_ := Aside0.mk (HM.out.addBox hb hbox hg); clear HM; have HM := n_; clear n_; clear hb hbox hg) | ((with_reducible refine gate_dst (N := 4) rfl ?_); refine box_event ?hg (N := 4) ?hd (cs := #[.slice none 0 0]) (t := 24) ?hr ?_; (case hd => rfl); (case hg => rfl); (case hr => first | (go_simp; done) | (go_simp; rfl)); intro gb3 hg w27_ hbox hb; have n_ := Aside0.mk (HM.out.addBox hb hbox hg); clear HM; have HM := n_; clear n_; clear hb hbox hg; have hcz28_0 : w27_.cell? ⟨gb1, 0, none⟩ = some (.slice A0_0 l0_0.length c0_0) := (blk_cell (HM.out.box 2 rfl) 0).trans rfl; have hfz28_0 := blk_frozen (HM.out.box 2 rfl) 0) | ((with_reducible refine gate_callee (f := 52) rfl ?_); (with_reducible refine gate_dst (N := 7) rfl ?_); refine goesL_ (some 7) rfl rfl Try.func52 (by kernel_rfl) rfl #[.agg #[.slice A0_0 l0_0.length c0_0]] rfl (by (try simp only [List.map_toArray, List.map_cons, List.map_nil]); first | done | rfl | (simp only [List.length_drop, List.length_take]; rfl)) ?_; (with_reducible refine (impl_isFamily.calls k _ _ l0_0 false _ ?sd0 ?sd1 A1_.out).mono ?_); (case sd0 => exact (Kd.C_below HR0_0.out HM.out.below)); (case sd1 => exact HC0_0.out); rintro e_ w29_ ⟨rfl, hb⟩; refine ⟨_, rfl, ?_⟩; have n_ := Aside0.mk (HM.out.step hb); clear HM; have HM := n_; clear n_; clear hb; have hcz31_0 : w29_.cell? ⟨gb3, 0, none⟩ = some (.slice none 0 0) := (blk_cell (HM.out.box 0 rfl) 0).trans rfl; have hfz31_0 := blk_frozen (HM.out.box 0 rfl) 0) | ((with_reducible refine gate_store (t := 24) (p := 4) rfl ?_); refine store_event (t := 24) (p := 4) (v := ?vow30_) (w1 := (w29_.setCell ⟨gb3, 0, none⟩ (.slice none 0 0))) ?hg ?ho ?hn ?hr ?_; (case ho => rfl); (case hg => rfl); (case hn => rfl); (case hr => first | (go_simp; done) | (go_simp; rfl)); intro w30_ hw; have n_ : Aside0 (MS w w30_ [.box gb3 24 #[.slice none 0 0], .box gb2 3 #[.int .i64 a1], .box gb1 24 #[.slice A0_0 l0_0.length c0_0]]) := ⟨by rw [hw]; exact HM.out.setBox 0 rfl _ _ rfl⟩; clear HM hw; have HM := n_; clear n_))
    refine bodyPost_ret (results_ct rfl _ _ gb3 24 #[.slice none 0 0] (0, 0) _ rfl (HM.out.box 0 rfl) Try.underlying24 rfl (by kernel_rfl)) rfl ?_
    exact ⟨_, by first | rfl | (simp; done) | (simp [*]; done), Kd.R_nil _ _ _ _ _, HM.out.below⟩

/-! ### spec_OutFamily: function 25 -/
def spec_OutFamily.l0 : Nat → (Int) → (Int) → (List Bool) → (List Int) → Option (List Int × Bool)
  | 0, _, _, _, _ => none
  | k + 1, x1, x7, m3, m1_0 => if x7 < 64 then ((spec_l5Has.f k m1_0 (Go.bits .or .i64 x7 x1)).bind fun t160 => (if 0 ≤ x7 then (spec_OutFamily.l0 k x1 (wrap64 (x7 + 1)) (m3.set (x7 : Int).toNat t160) m1_0) else (none))) else ((spec_l5Made.f k m3).bind fun t163 => (some (t163, true)))
def spec_OutFamily.f (k : Nat) (l0_0 : List Int) (a1 : Int) : Option (List Int × Bool) := (spec_l5Family.f k l0_0).bind fun t158 => (if t158 = true then ((spec_l3Set.f a1).bind fun t159 => (if t159 = true then (spec_OutFamily.l0 k a1 0 (List.replicate 64 false) l0_0) else (some ([], false)))) else (some ([], false)))
set_option maxHeartbeats 8000000 in
set_option maxRecDepth 100000 in
theorem spec_OutFamily.calls (k : Nat) (A0_0 : Option Addr) (c0_0 : Nat) (l0_0 : List Int) (a1 : Int) (r1 : List Int) (r2 : Bool) (w : World) (hr0_0 : Kd.C (Kd.int .i64) w A0_0 l0_0.length l0_0) (hc0_0 : l0_0.length ≤ c0_0) (h : spec_OutFamily.f k l0_0 a1 = some (r1, r2)) :
    Calls Try.prog 25 #[.agg #[.slice A0_0 l0_0.length c0_0], .int .i64 a1] w fun e w' => ∃ v0_ : Value, e = .returned (.tuple #[.agg #[v0_], .bool r2]) ∧ Kd.R (Kd.int .i64) 3 w' w.heap.size (fun _ => True) v0_ r1 ∧ Below w.heap.size w w' := by
  have HR0_0 := Aside0.mk hr0_0
  have HC0_0 := Aside0.mk hc0_0
  clear hr0_0 hc0_0
  have hu24 := Try.underlying24
  have hu46 := Try.underlying46
  have HM := Aside0.mk (MS.start w)
  have H : ((spec_l5Family.f k l0_0).bind fun t158 => (if t158 = true then ((spec_l3Set.f a1).bind fun t159 => (if t159 = true then (spec_OutFamily.l0 k a1 0 (List.replicate 64 false) l0_0) else (some ([], false)))) else (some ([], false)))) = some (r1, r2) := h
  clear h
  replace H := Option.bind_eq_some_iff.mp H
  obtain ⟨t158, A1_0, H⟩ := H
  replace H : (if t158 = true then ((spec_l3Set.f a1).bind fun t159 => (if t159 = true then (spec_OutFamily.l0 k a1 0 (List.replicate 64 false) l0_0) else (some ([], false)))) else (some ([], false))) = some (r1, r2) := H
  have A1_ := Aside0.mk A1_0
  clear A1_0
  by_cases c2_ : t158 = true
  · subst c2_
    have H1 : ((spec_l3Set.f a1).bind fun t159 => (if t159 = true then (spec_OutFamily.l0 k a1 0 (List.replicate 64 false) l0_0) else (some ([], false)))) = some (r1, r2) := by rw [if_pos rfl] at H; exact H
    clear H
    have H := H1
    clear H1
    replace H := Option.bind_eq_some_iff.mp H
    obtain ⟨t159, A3_0, H⟩ := H
    replace H : (if t159 = true then (spec_OutFamily.l0 k a1 0 (List.replicate 64 false) l0_0) else (some ([], false))) = some (r1, r2) := H
    have A3_ := Aside0.mk A3_0
    clear A3_0
    by_cases c4_ : t159 = true
    · subst c4_
      have H1 : (spec_OutFamily.l0 k a1 0 (List.replicate 64 false) l0_0) = some (r1, r2) := by rw [if_pos rfl] at H; exact H
      clear H
      have H := H1
      clear H1
      have H' := Aside0.mk H
      clear H
      go_enter Try.func25, Try.ntmps25
      go_wp2_with (first | ((with_reducible refine gate_dst (N := 2) rfl ?_); refine box_event ?hg (N := 2) ?hd (cs := #[.slice A0_0 l0_0.length c0_0]) (t := 24) ?hr ?_; (case hd => rfl); (case hg => rfl); (case hr => first | (go_simp; done) | (go_simp; rfl)); intro gb1 hg w5_ hbox hb; have n_ := Aside0.mk (HM.out.addBox hb hbox hg); clear HM; have HM := n_; clear n_; clear hb hbox hg) | ((with_reducible refine gate_dst (N := 4) rfl ?_); refine box_event ?hg (N := 4) ?hd (cs := #[.slice none 0 0]) (t := 24) ?hr ?_; (case hd => rfl); (case hg => rfl); (case hr => first | (go_simp; done) | (go_simp; rfl)); intro gb2 hg w6_ hbox hb; have n_ := Aside0.mk (HM.out.addBox hb hbox hg); clear HM; have HM := n_; clear n_; clear hb hbox hg; have hcz7_0 : w6_.cell? ⟨gb1, 0, none⟩ = some (.slice A0_0 l0_0.length c0_0) := (blk_cell (HM.out.box 1 rfl) 0).trans rfl; have hfz7_0 := blk_frozen (HM.out.box 1 rfl) 0) | ((with_reducible refine gate_callee (f := 50) rfl ?_); (with_reducible refine gate_dst (N := 9) rfl ?_); refine goesL_ (some 9) rfl rfl Try.func50 (by kernel_rfl) rfl #[.agg #[.slice A0_0 l0_0.length c0_0]] rfl (by (try simp only [List.map_toArray, List.map_cons, List.map_nil]); first | done | rfl | (simp only [List.length_drop, List.length_take]; rfl)) ?_; (with_reducible refine (spec_l5Family.calls k _ _ l0_0 true _ ?sd0 ?sd1 A1_.out).mono ?_); (case sd0 => exact (Kd.C_below HR0_0.out HM.out.below)); (case sd1 => exact HC0_0.out); rintro e_ w8_ ⟨rfl, hb⟩; refine ⟨_, rfl, ?_⟩; have n_ := Aside0.mk (HM.out.step hb); clear HM; have HM := n_; clear n_; clear hb) | (go_at_call 35; (refine calls_of_args (args' := #[.int .i64 a1]) (by first | done | rfl) ?_); (with_reducible refine (spec_l3Set.calls a1 true _  A3_.out).mono ?_); rintro e_ w9_ ⟨rfl, hd_⟩; have hb := hd_.below; clear hd_; have n_ := Aside0.mk (HM.out.step hb); clear HM; have HM := n_; clear n_; clear hb) | ((with_reducible refine gate_dst (N := 17) rfl ?_); refine build_zero ?hg (N := 17) ?hd (cs := (bcs (List.replicate 64 false))) ?hr ?_; (case hd => rfl); (case hg => rfl); (case hr => first | (go_simp; done) | (go_simp; rfl))) | ((with_reducible refine gate_dst (N := 6) rfl ?_); refine box_event ?hg (N := 6) ?hd (cs := (bcs (List.replicate 64 false))) (t := 46) ?hr ?_; (case hd => rfl); (case hg => rfl); (case hr => first | (go_simp; done) | (go_simp; rfl)); intro gb3 hg w10_ hbox hb; have n_ := Aside0.mk (HM.out.addBox hb hbox hg); clear HM; have HM := n_; clear n_; clear hb hbox hg) | ((with_reducible refine gate_store (t := 46) (p := 6) rfl ?_); refine wpList_store_row rfl _ _ _ rfl gb3 (bcs (List.replicate 64 false)) rfl rfl 46 (bcs (List.replicate 64 false)) (HM.out.box 0 rfl) (by rw [bcs_size, (List.length_replicate)]; kernel_rfl) ((bcs_size _).trans (((List.length_replicate)).trans ((show _ = 64 from (List.length_replicate)).symm.trans (bcs_size _).symm))) (bcs_one _) ?_; generalize hw : World.setRow _ _ _ = w11_; have n_ : Aside0 (MS w w11_ [.box gb3 46 (bcs (List.replicate 64 false)), .box gb2 24 #[.slice none 0 0], .box gb1 24 #[.slice A0_0 l0_0.length c0_0]]) := ⟨by rw [← hw]; exact HM.out.setRow 0 rfl _⟩; clear HM hw; have HM := n_; clear n_))
      go_loopg [7] k (fun kq v7 w' => ∃ (x7_12 : Int) (m3_12 : List Bool), v7 = .int .i64 x7_12 ∧ Aside0 (spec_OutFamily.l0 kq a1 x7_12 m3_12 l0_0 = some (r1, r2)) ∧ Aside0 (kq ≤ k) ∧ Aside0 (m3_12.length = 64) ∧ Aside0 (MS w w' [.box gb3 46 (bcs m3_12), .box gb2 24 #[.slice none 0 0], .box gb1 24 #[.slice A0_0 l0_0.length c0_0]]))
      case atStart => exact ⟨(0), ((List.replicate 64 false)), (by first | rfl | (simp; done) | (simp [*]; done)), H', ⟨Nat.le_refl _⟩, ⟨(List.length_replicate)⟩, HM⟩
      case round =>
        clear H'
        clear HM
        obtain ⟨x7_12, m3_12, rfl, HA, HK13_, HLm3_12, HM⟩ := hrel
        cases gk with
        | zero => exact absurd HA.out (by simp [spec_OutFamily.l0])
        | succ k14_ =>
          have H := HA.out
          clear HA
          simp only [spec_OutFamily.l0] at H
          by_cases c15_ : x7_12 < 64
          · rw [if_pos c15_] at H
            have c15_b0 : decide (x7_12 < 64) = true := decide_eq_true c15_
            clear c15_
            replace H := Option.bind_eq_some_iff.mp H
            obtain ⟨t160, A16_0, H⟩ := H
            replace H : (if 0 ≤ x7_12 then (spec_OutFamily.l0 k14_ a1 (wrap64 (x7_12 + 1)) (m3_12.set (x7_12 : Int).toNat t160) l0_0) else (none)) = some (r1, r2) := H
            have A16_ := Aside0.mk A16_0
            clear A16_0
            by_cases c17_ : 0 ≤ x7_12
            · rw [if_pos c17_] at H
              have c17_b0 : decide (0 ≤ x7_12) = true := decide_eq_true c17_
              clear c17_
              obtain ⟨y161, hy161⟩ : ∃ y_, y_ = (m3_12.set (x7_12 : Int).toNat t160) := ⟨_, rfl⟩
              replace H : (spec_OutFamily.l0 k14_ a1 (wrap64 (x7_12 + 1)) y161 l0_0) = some (r1, r2) := by first | (rw [hy161]; with_reducible exact H) | (have H2_ := (Option.bind_some _ _).symm.trans H; rw [hy161]; with_reducible exact H2_) | (have H2_ := (Option.bind_some _ _).symm.trans H; with_reducible exact H2_) | with_reducible exact H | (rw [hy161]; exact H) | exact H
              have Ny161 := Aside0.mk hy161
              clear hy161
              have H' := Aside0.mk H
              clear H
              have hcz18_0 : wr.cell? ⟨gb1, 0, none⟩ = some (.slice A0_0 l0_0.length c0_0) := (blk_cell (HM.out.box 2 rfl) 0).trans rfl
              have hfz18_0 := blk_frozen (HM.out.box 2 rfl) 0
              go_wp2_with (first | ((with_reducible refine gate_callee (f := 51) rfl ?_); (with_reducible refine gate_dst (N := 27) rfl ?_); refine goesL_ (some 27) rfl rfl Try.func51 (by kernel_rfl) rfl #[.agg #[.slice A0_0 l0_0.length c0_0], .int .i64 (Go.bits .or .i64 x7_12 a1)] rfl (by (try simp only [List.map_toArray, List.map_cons, List.map_nil]); first | done | rfl | (simp only [List.length_drop, List.length_take]; rfl)) ?_; (with_reducible refine (spec_l5Has.calls k14_ _ _ l0_0 (Go.bits .or .i64 x7_12 a1) t160 _ ?sd0 ?sd1 A16_.out).mono ?_); (case sd0 => exact (Kd.C_below HR0_0.out HM.out.below)); (case sd1 => exact HC0_0.out); rintro e_ w19_ ⟨rfl, hb⟩; refine ⟨_, rfl, ?_⟩; have n_ := Aside0.mk (HM.out.step hb); clear HM; have HM := n_; clear n_; clear hb; have p162 : 0 ≤ (x7_12 : Int) := of_decide_eq_true (by first | (with_reducible assumption) | assumption); have q162 : (x7_12 : Int) < 64 := of_decide_eq_true (by first | (with_reducible assumption) | assumption); have hx162 := bcell (HM.out.box 0 rfl) x7_12 p162 (by have := HLm3_12.out; omega); have hf162 := blk_frozen (HM.out.box 0 rfl) (x7_12 : Int).toNat; replace p162 := eq_true p162; replace q162 := eq_true q162) | ((with_reducible refine gate_store (t := 4) (p := 28) rfl ?_); refine store_event (t := 4) (p := 28) (v := ?vow20_) (w1 := (w19_.setCell ⟨gb3, (x7_12 : Int).toNat, none⟩ (.bool t160))) ?hg ?ho ?hn ?hr ?_; (case ho => rfl); (case hg => rfl); (case hn => rfl); (case hr => first | (go_simp; done) | (go_simp; rfl)); intro w20_ hw; have n_ : Aside0 (MS w w20_ [.box gb3 46 (bcs y161), .box gb2 24 #[.slice none 0 0], .box gb1 24 #[.slice A0_0 l0_0.length c0_0]]) := ⟨by rw [hw]; exact HM.out.setBox 0 rfl _ _ (by rw [bcs_set, ← Ny161.out])⟩; clear HM hw; have HM := n_; clear n_))
              go_roundg k14_
              case measure => have hHK13__ := HK13_.out; omega
              case rel => exact ⟨(wrap64 (x7_12 + 1)), (y161), (by first | rfl | (simp; done) | (simp [*]; done)), H', ⟨by have hHK13__ := HK13_.out; omega⟩, ⟨(show y161.length = 64 from by rw [Ny161.out, List.length_set]; exact HLm3_12.out)⟩, HM⟩
            · rw [if_neg c17_] at H
              have c17_b0 : decide (0 ≤ x7_12) = false := decide_eq_false c17_
              clear c17_
              exact absurd H (by simp)
          · rw [if_neg c15_] at H
            have c15_b0 : decide (x7_12 < 64) = false := decide_eq_false c15_
            clear c15_
            replace H := Option.bind_eq_some_iff.mp H
            obtain ⟨t163, A21_0, H⟩ := H
            replace H : (some (t163, true)) = some (r1, r2) := H
            have A21_ := Aside0.mk A21_0
            clear A21_0
            simp only [Option.some.injEq, Prod.mk.injEq] at H
            obtain ⟨rfl, rfl⟩ := H
            go_wp2_with (first | ((with_reducible refine gate_dst (N := 29) rfl ?_); refine wpList_load_row rfl _ _ rfl gb3 rfl 46 (bcs m3_12) (0, 0) _ (HM.out.box 0 rfl) Try.underlying46 rfl (by rw [bcs_size, HLm3_12.out]; kernel_rfl) ?_) | ((with_reducible refine gate_callee (f := 36) rfl ?_); (with_reducible refine gate_dst (N := 30) rfl ?_); refine goesL_ (some 30) rfl rfl Try.func36 (by kernel_rfl) rfl #[.agg (bcs m3_12)] rfl (by (try simp only [List.map_toArray, List.map_cons, List.map_nil]); first | done | rfl | (simp only [List.length_drop, List.length_take]; rfl)) ?_; (with_reducible refine (spec_l5Made.calls k14_ m3_12 t163 _ ?sd0 A21_.out).mono ?_); (case sd0 => exact HLm3_12.out); rintro e_ w22_ ⟨vv0_, rfl, ho0_, hb⟩; refine ⟨_, rfl, ?_⟩; obtain ⟨Ao4_0, co4_0, ev_⟩ := Kd.R_slice ho0_; subst ev_; have n_ := Aside0.mk (HM.out.addR hb ho0_); clear HM; have HM := n_; clear n_; clear hb ho0_; have hcz24_0 : w22_.cell? ⟨gb2, 0, none⟩ = some (.slice none 0 0) := (blk_cell (HM.out.box 2 rfl) 0).trans rfl; have hfz24_0 := blk_frozen (HM.out.box 2 rfl) 0) | ((with_reducible refine gate_store (t := 24) (p := 4) rfl ?_); refine store_event (t := 24) (p := 4) (v := ?vow23_) (w1 := (w22_.setCell ⟨gb2, 0, none⟩ (.slice Ao4_0 t163.length co4_0))) ?hg ?ho ?hn ?hr ?_; (case ho => rfl); (case hg => rfl); (case hn => rfl); (case hr => first | (go_simp; done) | (go_simp; rfl)); intro w23_ hw; have n_ : Aside0 (MS w w23_ [.row 3 (.slice Ao4_0 t163.length co4_0) (encs (Value.int .i64) t163), .box gb3 46 (bcs m3_12), .box gb2 24 #[.slice Ao4_0 t163.length co4_0], .box gb1 24 #[.slice A0_0 l0_0.length c0_0]]) := ⟨by rw [hw]; exact HM.out.setBox 2 rfl _ _ rfl⟩; clear HM hw; have HM := n_; clear n_))
            refine bodyPost_ret (results_ct rfl _ _ gb2 24 #[.slice Ao4_0 t163.length co4_0] (0, 0) _ rfl (HM.out.box 2 rfl) Try.underlying24 rfl (by kernel_rfl)) rfl ?_
            exact ⟨_, by first | rfl | (simp; done) | (simp [*]; done), HM.out.R 0 rfl, HM.out.below⟩
    · replace c4_ := Bool.eq_false_iff.mpr c4_
      subst c4_
      have H1 : (some ([], false)) = some (r1, r2) := by rw [if_neg (show ¬ (false = true) by decide)] at H; exact H
      clear H
      have H := H1
      clear H1
      simp only [Option.some.injEq, Prod.mk.injEq] at H
      obtain ⟨rfl, rfl⟩ := H
      go_enter Try.func25, Try.ntmps25
      go_wp2_with (first | ((with_reducible refine gate_dst (N := 2) rfl ?_); refine box_event ?hg (N := 2) ?hd (cs := #[.slice A0_0 l0_0.length c0_0]) (t := 24) ?hr ?_; (case hd => rfl); (case hg => rfl); (case hr => first | (go_simp; done) | (go_simp; rfl)); intro gb1 hg w25_ hbox hb; have n_ := Aside0.mk (HM.out.addBox hb hbox hg); clear HM; have HM := n_; clear n_; clear hb hbox hg) | ((with_reducible refine gate_dst (N := 4) rfl ?_); refine box_event ?hg (N := 4) ?hd (cs := #[.slice none 0 0]) (t := 24) ?hr ?_; (case hd => rfl); (case hg => rfl); (case hr => first | (go_simp; done) | (go_simp; rfl)); intro gb2 hg w26_ hbox hb; have n_ := Aside0.mk (HM.out.addBox hb hbox hg); clear HM; have HM := n_; clear n_; clear hb hbox hg; have hcz27_0 : w26_.cell? ⟨gb1, 0, none⟩ = some (.slice A0_0 l0_0.length c0_0) := (blk_cell (HM.out.box 1 rfl) 0).trans rfl; have hfz27_0 := blk_frozen (HM.out.box 1 rfl) 0) | ((with_reducible refine gate_callee (f := 50) rfl ?_); (with_reducible refine gate_dst (N := 9) rfl ?_); refine goesL_ (some 9) rfl rfl Try.func50 (by kernel_rfl) rfl #[.agg #[.slice A0_0 l0_0.length c0_0]] rfl (by (try simp only [List.map_toArray, List.map_cons, List.map_nil]); first | done | rfl | (simp only [List.length_drop, List.length_take]; rfl)) ?_; (with_reducible refine (spec_l5Family.calls k _ _ l0_0 true _ ?sd0 ?sd1 A1_.out).mono ?_); (case sd0 => exact (Kd.C_below HR0_0.out HM.out.below)); (case sd1 => exact HC0_0.out); rintro e_ w28_ ⟨rfl, hb⟩; refine ⟨_, rfl, ?_⟩; have n_ := Aside0.mk (HM.out.step hb); clear HM; have HM := n_; clear n_; clear hb) | (go_at_call 35; (refine calls_of_args (args' := #[.int .i64 a1]) (by first | done | rfl) ?_); (with_reducible refine (spec_l3Set.calls a1 false _  A3_.out).mono ?_); rintro e_ w29_ ⟨rfl, hd_⟩; have hb := hd_.below; clear hd_; have n_ := Aside0.mk (HM.out.step hb); clear HM; have HM := n_; clear n_; clear hb; have hcz31_0 : w29_.cell? ⟨gb2, 0, none⟩ = some (.slice none 0 0) := (blk_cell (HM.out.box 0 rfl) 0).trans rfl; have hfz31_0 := blk_frozen (HM.out.box 0 rfl) 0) | ((with_reducible refine gate_store (t := 24) (p := 4) rfl ?_); refine store_event (t := 24) (p := 4) (v := ?vow30_) (w1 := (w29_.setCell ⟨gb2, 0, none⟩ (.slice none 0 0))) ?hg ?ho ?hn ?hr ?_; (case ho => rfl); (case hg => rfl); (case hn => rfl); (case hr => first | (go_simp; done) | (go_simp; rfl)); intro w30_ hw; have n_ : Aside0 (MS w w30_ [.box gb2 24 #[.slice none 0 0], .box gb1 24 #[.slice A0_0 l0_0.length c0_0]]) := ⟨by rw [hw]; exact HM.out.setBox 0 rfl _ _ rfl⟩; clear HM hw; have HM := n_; clear n_))
      refine bodyPost_ret (results_ct rfl _ _ gb2 24 #[.slice none 0 0] (0, 0) _ rfl (HM.out.box 0 rfl) Try.underlying24 rfl (by kernel_rfl)) rfl ?_
      exact ⟨_, by first | rfl | (simp; done) | (simp [*]; done), Kd.R_nil _ _ _ _ _, HM.out.below⟩
  · replace c2_ := Bool.eq_false_iff.mpr c2_
    subst c2_
    have H1 : (some ([], false)) = some (r1, r2) := by rw [if_neg (show ¬ (false = true) by decide)] at H; exact H
    clear H
    have H := H1
    clear H1
    simp only [Option.some.injEq, Prod.mk.injEq] at H
    obtain ⟨rfl, rfl⟩ := H
    go_enter Try.func25, Try.ntmps25
    go_wp2_with (first | ((with_reducible refine gate_dst (N := 2) rfl ?_); refine box_event ?hg (N := 2) ?hd (cs := #[.slice A0_0 l0_0.length c0_0]) (t := 24) ?hr ?_; (case hd => rfl); (case hg => rfl); (case hr => first | (go_simp; done) | (go_simp; rfl)); intro gb1 hg w32_ hbox hb; have n_ := Aside0.mk (HM.out.addBox hb hbox hg); clear HM; have HM := n_; clear n_; clear hb hbox hg) | ((with_reducible refine gate_dst (N := 4) rfl ?_); refine box_event ?hg (N := 4) ?hd (cs := #[.slice none 0 0]) (t := 24) ?hr ?_; (case hd => rfl); (case hg => rfl); (case hr => first | (go_simp; done) | (go_simp; rfl)); intro gb2 hg w33_ hbox hb; have n_ := Aside0.mk (HM.out.addBox hb hbox hg); clear HM; have HM := n_; clear n_; clear hb hbox hg; have hcz34_0 : w33_.cell? ⟨gb1, 0, none⟩ = some (.slice A0_0 l0_0.length c0_0) := (blk_cell (HM.out.box 1 rfl) 0).trans rfl; have hfz34_0 := blk_frozen (HM.out.box 1 rfl) 0) | ((with_reducible refine gate_callee (f := 50) rfl ?_); (with_reducible refine gate_dst (N := 9) rfl ?_); refine goesL_ (some 9) rfl rfl Try.func50 (by kernel_rfl) rfl #[.agg #[.slice A0_0 l0_0.length c0_0]] rfl (by (try simp only [List.map_toArray, List.map_cons, List.map_nil]); first | done | rfl | (simp only [List.length_drop, List.length_take]; rfl)) ?_; (with_reducible refine (spec_l5Family.calls k _ _ l0_0 false _ ?sd0 ?sd1 A1_.out).mono ?_); (case sd0 => exact (Kd.C_below HR0_0.out HM.out.below)); (case sd1 => exact HC0_0.out); rintro e_ w35_ ⟨rfl, hb⟩; refine ⟨_, rfl, ?_⟩; have n_ := Aside0.mk (HM.out.step hb); clear HM; have HM := n_; clear n_; clear hb; have hcz37_0 : w35_.cell? ⟨gb2, 0, none⟩ = some (.slice none 0 0) := (blk_cell (HM.out.box 0 rfl) 0).trans rfl; have hfz37_0 := blk_frozen (HM.out.box 0 rfl) 0) | ((with_reducible refine gate_store (t := 24) (p := 4) rfl ?_); refine store_event (t := 24) (p := 4) (v := ?vow36_) (w1 := (w35_.setCell ⟨gb2, 0, none⟩ (.slice none 0 0))) ?hg ?ho ?hn ?hr ?_; (case ho => rfl); (case hg => rfl); (case hn => rfl); (case hr => first | (go_simp; done) | (go_simp; rfl)); intro w36_ hw; have n_ : Aside0 (MS w w36_ [.box gb2 24 #[.slice none 0 0], .box gb1 24 #[.slice A0_0 l0_0.length c0_0]]) := ⟨by rw [hw]; exact HM.out.setBox 0 rfl _ _ rfl⟩; clear HM hw; have HM := n_; clear n_))
    refine bodyPost_ret (results_ct rfl _ _ gb2 24 #[.slice none 0 0] (0, 0) _ rfl (HM.out.box 0 rfl) Try.underlying24 rfl (by kernel_rfl)) rfl ?_
    exact ⟨_, by first | rfl | (simp; done) | (simp [*]; done), Kd.R_nil _ _ _ _ _, HM.out.below⟩

/-! ### impl_OutFamily_1: function 54 -/
def impl_OutFamily_1.f (k : Nat) (a0 : Int) (l1_0 : List Int) (a2 : Int) : Option (Bool) := (impl_Family_has.f k l1_0 (Go.bits .or .i64 a0 a2)).bind fun t164 => (some t164)
set_option maxHeartbeats 8000000 in
set_option maxRecDepth 100000 in
theorem impl_OutFamily_1.calls (k : Nat) (a0 : Int) (gb1 : Nat) (A1_0 : Option Addr) (c1_0 : Nat) (l1_0 : List Int) (gb2 : Nat) (a2 : Int) (r : Bool) (w : World) (hr1_0 : Kd.C (Kd.int .i64) w A1_0 l1_0.length l1_0) (hc1_0 : l1_0.length ≤ c1_0) (hq1 : w.heap[gb1]? = some (.cells #[.slice A1_0 l1_0.length c1_0] 24 (0, 0))) (hq2 : w.heap[gb2]? = some (.cells #[.int .i64 a2] 3 (0, 0))) (h : impl_OutFamily_1.f k a0 l1_0 a2 = some r) :
    Calls Try.prog 54 #[.int .i64 a0, .pointer (some ⟨gb1, 0, none⟩), .pointer (some ⟨gb2, 0, none⟩)] w fun e w' => e = .returned (.bool r) ∧ Below w.heap.size w w' := by
  have HR1_0 := Aside0.mk hr1_0
  have HC1_0 := Aside0.mk hc1_0
  clear hr1_0 hc1_0
  have HQ1 := Aside0.mk hq1
  clear hq1
  have HQ2 := Aside0.mk hq2
  clear hq2
  have hu24 := Try.underlying24
  have HM := Aside0.mk (MS.start w)
  have H : ((impl_Family_has.f k l1_0 (Go.bits .or .i64 a0 a2)).bind fun t164 => (some t164)) = some r := h
  clear h
  replace H := Option.bind_eq_some_iff.mp H
  obtain ⟨t164, A1_0, H⟩ := H
  replace H : (some t164) = some r := H
  have A1_ := Aside0.mk A1_0
  clear A1_0
  obtain rfl := Option.some.inj H
  have hcz2_0 : w.cell? ⟨gb1, 0, none⟩ = some (.slice A1_0 l1_0.length c1_0) := (blk_cell (blk_below HQ1.out HM.out.below) 0).trans rfl
  have hfz2_0 := blk_frozen (blk_below HQ1.out HM.out.below) 0
  have hcz3_0 : w.cell? ⟨gb2, 0, none⟩ = some (.int .i64 a2) := (blk_cell (blk_below HQ2.out HM.out.below) 0).trans rfl
  have hfz3_0 := blk_frozen (blk_below HQ2.out HM.out.below) 0
  go_enter Try.func54, Try.ntmps54
  go_wp2_with (first | ((with_reducible refine gate_callee (f := 42) rfl ?_); (with_reducible refine gate_dst (N := 9) rfl ?_); refine goesL_ (some 9) rfl rfl Try.func42 (by kernel_rfl) rfl #[.agg #[.slice A1_0 l1_0.length c1_0], .int .i64 (Go.bits .or .i64 a0 a2)] rfl (by (try simp only [List.map_toArray, List.map_cons, List.map_nil]); first | done | rfl | (simp only [List.length_drop, List.length_take]; rfl)) ?_; (with_reducible refine (impl_Family_has.calls k _ _ l1_0 (Go.bits .or .i64 a0 a2) t164 _ ?sd0 ?sd1 A1_.out).mono ?_); (case sd0 => exact (Kd.C_below HR1_0.out HM.out.below)); (case sd1 => exact HC1_0.out); rintro e_ w4_ ⟨rfl, hb⟩; refine ⟨_, rfl, ?_⟩; have n_ := Aside0.mk (HM.out.step hb); clear HM; have HM := n_; clear n_; clear hb))
  go_ret
  exact ⟨by first | rfl | (simp; done) | (simp [*]; done), HM.out.below⟩

/-! ### impl_OutFamily: function 26 -/
def impl_OutFamily.f (k : Nat) (l0_0 : List Int) (a1 : Int) : Option (List Int × Bool) := (impl_isFamily.f k l0_0).bind fun t165 => (if t165 = true then ((impl_isSet.f a1).bind fun t166 => (if t166 = true then ((impl_familyOf.f k (fun x_ => impl_OutFamily_1.f k x_ l0_0 a1)).bind fun t168 => (some (t168, true))) else (some ([], false)))) else (some ([], false)))
set_option maxHeartbeats 8000000 in
set_option maxRecDepth 100000 in
theorem impl_OutFamily.calls (k : Nat) (A0_0 : Option Addr) (c0_0 : Nat) (l0_0 : List Int) (a1 : Int) (r1 : List Int) (r2 : Bool) (w : World) (hr0_0 : Kd.C (Kd.int .i64) w A0_0 l0_0.length l0_0) (hc0_0 : l0_0.length ≤ c0_0) (h : impl_OutFamily.f k l0_0 a1 = some (r1, r2)) :
    Calls Try.prog 26 #[.agg #[.slice A0_0 l0_0.length c0_0], .int .i64 a1] w fun e w' => ∃ v0_ : Value, e = .returned (.tuple #[.agg #[v0_], .bool r2]) ∧ Kd.R (Kd.int .i64) 3 w' w.heap.size (fun _ => True) v0_ r1 ∧ Below w.heap.size w w' := by
  have HR0_0 := Aside0.mk hr0_0
  have HC0_0 := Aside0.mk hc0_0
  clear hr0_0 hc0_0
  have hu24 := Try.underlying24
  have HM := Aside0.mk (MS.start w)
  have H : ((impl_isFamily.f k l0_0).bind fun t165 => (if t165 = true then ((impl_isSet.f a1).bind fun t166 => (if t166 = true then ((impl_familyOf.f k (fun x_ => impl_OutFamily_1.f k x_ l0_0 a1)).bind fun t168 => (some (t168, true))) else (some ([], false)))) else (some ([], false)))) = some (r1, r2) := h
  clear h
  replace H := Option.bind_eq_some_iff.mp H
  obtain ⟨t165, A1_0, H⟩ := H
  replace H : (if t165 = true then ((impl_isSet.f a1).bind fun t166 => (if t166 = true then ((impl_familyOf.f k (fun x_ => impl_OutFamily_1.f k x_ l0_0 a1)).bind fun t168 => (some (t168, true))) else (some ([], false)))) else (some ([], false))) = some (r1, r2) := H
  have A1_ := Aside0.mk A1_0
  clear A1_0
  by_cases c2_ : t165 = true
  · subst c2_
    have H1 : ((impl_isSet.f a1).bind fun t166 => (if t166 = true then ((impl_familyOf.f k (fun x_ => impl_OutFamily_1.f k x_ l0_0 a1)).bind fun t168 => (some (t168, true))) else (some ([], false)))) = some (r1, r2) := by rw [if_pos rfl] at H; exact H
    clear H
    have H := H1
    clear H1
    replace H := Option.bind_eq_some_iff.mp H
    obtain ⟨t166, A3_0, H⟩ := H
    replace H : (if t166 = true then ((impl_familyOf.f k (fun x_ => impl_OutFamily_1.f k x_ l0_0 a1)).bind fun t168 => (some (t168, true))) else (some ([], false))) = some (r1, r2) := H
    have A3_ := Aside0.mk A3_0
    clear A3_0
    by_cases c4_ : t166 = true
    · subst c4_
      have H1 : ((impl_familyOf.f k (fun x_ => impl_OutFamily_1.f k x_ l0_0 a1)).bind fun t168 => (some (t168, true))) = some (r1, r2) := by rw [if_pos rfl] at H; exact H
      clear H
      have H := H1
      clear H1
      replace H := Option.bind_eq_some_iff.mp H
      obtain ⟨t168, A5_0, H⟩ := H
      replace H : (some (t168, true)) = some (r1, r2) := H
      have A5_ := Aside0.mk A5_0
      clear A5_0
      simp only [Option.some.injEq, Prod.mk.injEq] at H
      obtain ⟨rfl, rfl⟩ := H
      go_enter Try.func26, Try.ntmps26
      go_wp2_with (first | ((with_reducible refine gate_dst (N := 2) rfl ?_); refine box_event ?hg (N := 2) ?hd (cs := #[.slice A0_0 l0_0.length c0_0]) (t := 24) ?hr ?_; (case hd => rfl); (case hg => rfl); (case hr => first | (go_simp; done) | (go_simp; rfl)); intro gb1 hg w6_ hbox hb; have n_ := Aside0.mk (HM.out.addBox hb hbox hg); clear HM; have HM := n_; clear n_; clear hb hbox hg) | ((with_reducible refine gate_dst (N := 3) rfl ?_); refine box_event ?hg (N := 3) ?hd (cs := #[.int .i64 a1]) (t := 3) ?hr ?_; (case hd => rfl); (case hg => rfl); (case hr => first | (go_simp; done) | (go_simp; rfl)); intro gb2 hg w7_ hbox hb; have n_ := Aside0.mk (HM.out.addBox hb hbox hg); clear HM; have HM := n_; clear n_; clear hb hbox hg) | ((with_reducible refine gate_dst (N := 4) rfl ?_); refine box_event ?hg (N := 4) ?hd (cs := #[.slice none 0 0]) (t := 24) ?hr ?_; (case hd => rfl); (case hg => rfl); (case hr => first | (go_simp; done) | (go_simp; rfl)); intro gb3 hg w8_ hbox hb; have n_ := Aside0.mk (HM.out.addBox hb hbox hg); clear HM; have HM := n_; clear n_; clear hb hbox hg; have hcz9_0 : w8_.cell? ⟨gb1, 0, none⟩ = some (.slice A0_0 l0_0.length c0_0) := (blk_cell (HM.out.box 2 rfl) 0).trans rfl; have hfz9_0 := blk_frozen (HM.out.box 2 rfl) 0) | ((with_reducible refine gate_callee (f := 52) rfl ?_); (with_reducible refine gate_dst (N := 7) rfl ?_); refine goesL_ (some 7) rfl rfl Try.func52 (by kernel_rfl) rfl #[.agg #[.slice A0_0 l0_0.length c0_0]] rfl (by (try simp only [List.map_toArray, List.map_cons, List.map_nil]); first | done | rfl | (simp only [List.length_drop, List.length_take]; rfl)) ?_; (with_reducible refine (impl_isFamily.calls k _ _ l0_0 true _ ?sd0 ?sd1 A1_.out).mono ?_); (case sd0 => exact (Kd.C_below HR0_0.out HM.out.below)); (case sd1 => exact HC0_0.out); rintro e_ w10_ ⟨rfl, hb⟩; refine ⟨_, rfl, ?_⟩; have n_ := Aside0.mk (HM.out.step hb); clear HM; have HM := n_; clear n_; clear hb; have hcz11_0 : w10_.cell? ⟨gb2, 0, none⟩ = some (.int .i64 a1) := (blk_cell (HM.out.box 1 rfl) 0).trans rfl; have hfz11_0 := blk_frozen (HM.out.box 1 rfl) 0) | (go_at_call 40; (refine calls_of_args (args' := #[.int .i64 a1]) (by first | done | rfl) ?_); (with_reducible refine (impl_isSet.calls a1 true _  A3_.out).mono ?_); rintro e_ w12_ ⟨rfl, hd_⟩; have hb := hd_.below; clear hd_; have n_ := Aside0.mk (HM.out.step hb); clear HM; have HM := n_; clear n_; clear hb; have fv167 := Aside0.mk (show FnB Try.prog w12_ (.func (.func 54) #[] #[.pointer (some ⟨gb1, 0, none⟩), .pointer (some ⟨gb2, 0, none⟩)]) (fun x_ => impl_OutFamily_1.f k x_ l0_0 a1) from FnB.mk Try.func54 rfl rfl (fun W_ hW_ x_ r_ hr_ => (show Calls Try.prog 54 #[.int .i64 x_, .pointer (some ⟨gb1, 0, none⟩), .pointer (some ⟨gb2, 0, none⟩)] W_ _ from impl_OutFamily_1.calls k x_ _ _ _ l0_0 _ a1 r_ W_ (Kd.C_below HR0_0.out (below_step HM.out.below hW_)) HC0_0.out (blk_below (HM.out.box 2 rfl) hW_) (blk_below (HM.out.box 1 rfl) hW_) hr_)))) | ((with_reducible refine gate_callee (f := 41) rfl ?_); (with_reducible refine gate_dst (N := 16) rfl ?_); refine goesL_ (some 16) rfl rfl Try.func41 (by kernel_rfl) rfl #[.func (.func 54) #[] #[.pointer (some ⟨gb1, 0, none⟩), .pointer (some ⟨gb2, 0, none⟩)]] rfl (by (try simp only [List.map_toArray, List.map_cons, List.map_nil]); first | done | rfl | (simp only [List.length_drop, List.length_take]; rfl)) ?_; (with_reducible refine (impl_familyOf.calls k _ (fun x_ => impl_OutFamily_1.f k x_ l0_0 a1) t168 _ ?sd0 A5_.out).mono ?_); (case sd0 => exact fv167.out); rintro e_ w13_ ⟨vv0_, rfl, ho0_, hb⟩; refine ⟨_, rfl, ?_⟩; obtain ⟨Ao4_0, co4_0, ev_⟩ := Kd.R_slice ho0_; subst ev_; have n_ := Aside0.mk (HM.out.addR hb ho0_); clear HM; have HM := n_; clear n_; clear hb ho0_; have hcz15_0 : w13_.cell? ⟨gb3, 0, none⟩ = some (.slice none 0 0) := (blk_cell (HM.out.box 1 rfl) 0).trans rfl; have hfz15_0 := blk_frozen (HM.out.box 1 rfl) 0) | ((with_reducible refine gate_store (t := 24) (p := 4) rfl ?_); refine store_event (t := 24) (p := 4) (v := ?vow14_) (w1 := (w13_.setCell ⟨gb3, 0, none⟩ (.slice Ao4_0 t168.length co4_0))) ?hg ?ho ?hn ?hr ?_; (case ho => rfl); (case hg => rfl); (case hn => rfl); (case hr => first | (go_simp; done) | (go_simp; rfl)); intro w14_ hw; have n_ : Aside0 (MS w w14_ [.row 3 (.slice Ao4_0 t168.length co4_0) (encs (Value.int .i64) t168), .box gb3 24 #[.slice Ao4_0 t168.length co4_0], .box gb2 3 #[.int .i64 a1], .box gb1 24 #[.slice A0_0 l0_0.length c0_0]]) := ⟨by rw [hw]; exact HM.out.setBox 1 rfl _ _ rfl⟩; clear HM hw; have HM := n_; clear n_))
      refine bodyPost_ret (results_ct rfl _ _ gb3 24 #[.slice Ao4_0 t168.length co4_0] (0, 0) _ rfl (HM.out.box 1 rfl) Try.underlying24 rfl (by kernel_rfl)) rfl ?_
      exact ⟨_, by first | rfl | (simp; done) | (simp [*]; done), HM.out.R 0 rfl, HM.out.below⟩
    · replace c4_ := Bool.eq_false_iff.mpr c4_
      subst c4_
      have H1 : (some ([], false)) = some (r1, r2) := by rw [if_neg (show ¬ (false = true) by decide)] at H; exact H
      clear H
      have H := H1
      clear H1
      simp only [Option.some.injEq, Prod.mk.injEq] at H
      obtain ⟨rfl, rfl⟩ := H
      go_enter Try.func26, Try.ntmps26
      go_wp2_with (first | ((with_reducible refine gate_dst (N := 2) rfl ?_); refine box_event ?hg (N := 2) ?hd (cs := #[.slice A0_0 l0_0.length c0_0]) (t := 24) ?hr ?_; (case hd => rfl); (case hg => rfl); (case hr => first | (go_simp; done) | (go_simp; rfl)); intro gb1 hg w16_ hbox hb; have n_ := Aside0.mk (HM.out.addBox hb hbox hg); clear HM; have HM := n_; clear n_; clear hb hbox hg) | ((with_reducible refine gate_dst (N := 3) rfl ?_); refine box_event ?hg (N := 3) ?hd (cs := #[.int .i64 a1]) (t := 3) ?hr ?_; (case hd => rfl); (case hg => rfl); (case hr => first | (go_simp; done) | (go_simp; rfl)); intro gb2 hg w17_ hbox hb; have n_ := Aside0.mk (HM.out.addBox hb hbox hg); clear HM; have HM := n_; clear n_; clear hb hbox hg) | ((with_reducible refine gate_dst (N := 4) rfl ?_); refine box_event ?hg (N := 4) ?hd (cs := #[.slice none 0 0]) (t := 24) ?hr ?_; (case hd => rfl); (case hg => rfl); (case hr => first | (go_simp; done) | (go_simp; rfl)); intro gb3 hg w18_ hbox hb; have n_ := Aside0.mk (HM.out.addBox hb hbox hg); clear HM; have HM := n_; clear n_; clear hb hbox hg; have hcz19_0 : w18_.cell? ⟨gb1, 0, none⟩ = some (.slice A0_0 l0_0.length c0_0) := (blk_cell (HM.out.box 2 rfl) 0).trans rfl; have hfz19_0 := blk_frozen (HM.out.box 2 rfl) 0) | ((with_reducible refine gate_callee (f := 52) rfl ?_); (with_reducible refine gate_dst (N := 7) rfl ?_); refine goesL_ (some 7) rfl rfl Try.func52 (by kernel_rfl) rfl #[.agg #[.slice A0_0 l0_0.length c0_0]] rfl (by (try simp only [List.map_toArray, List.map_cons, List.map_nil]); first | done | rfl | (simp only [List.length_drop, List.length_take]; rfl)) ?_; (with_reducible refine (impl_isFamily.calls k _ _ l0_0 true _ ?sd0 ?sd1 A1_.out).mono ?_); (case sd0 => exact (Kd.C_below HR0_0.out HM.out.below)); (case sd1 => exact HC0_0.out); rintro e_ w20_ ⟨rfl, hb⟩; refine ⟨_, rfl, ?_⟩; have n_ := Aside0.mk (HM.out.step hb); clear HM; have HM := n_; clear n_; clear hb; have hcz21_0 : w20_.cell? ⟨gb2, 0, none⟩ = some (.int .i64 a1) := (blk_cell (HM.out.box 1 rfl) 0).trans rfl; have hfz21_0 := blk_frozen (HM.out.box 1 rfl) 0) | (go_at_call 40; (refine calls_of_args (args' := #[.int .i64 a1]) (by first | done | rfl) ?_); (with_reducible refine (impl_isSet.calls a1 false _  A3_.out).mono ?_); rintro e_ w22_ ⟨rfl, hd_⟩; have hb := hd_.below; clear hd_; have n_ := Aside0.mk (HM.out.step hb); clear HM; have HM := n_; clear n_; clear hb; have hcz24_0 : w22_.cell? ⟨gb3, 0, none⟩ = some (.slice none 0 0) := (blk_cell (HM.out.box 0 rfl) 0).trans rfl; have hfz24_0 := blk_frozen (HM.out.box 0 rfl) 0) | ((with_reducible refine gate_store (t := 24) (p := 4) rfl ?_); refine store_event (t := 24) (p := 4) (v := ?vow23_) (w1 := (w22_.setCell ⟨gb3, 0, none⟩ (.slice none 0 0))) ?hg ?ho ?hn ?hr ?_; (case ho => rfl); (case hg => rfl); (case hn => rfl); (case hr => first | (go_simp; done) | (go_simp; rfl)); intro w23_ hw; have n_ : Aside0 (MS w w23_ [.box gb3 24 #[.slice none 0 0], .box gb2 3 #[.int .i64 a1], .box gb1 24 #[.slice A0_0 l0_0.length c0_0]]) := ⟨by rw [hw]; exact HM.out.setBox 0 rfl _ _ rfl⟩; clear HM hw; have HM := n_; clear n_))
      refine bodyPost_ret (results_ct rfl _ _ gb3 24 #[.slice none 0 0] (0, 0) _ rfl (HM.out.box 0 rfl) Try.underlying24 rfl (by kernel_rfl)) rfl ?_
      exact ⟨_, by first | rfl | (simp; done) | (simp [*]; done), Kd.R_nil _ _ _ _ _, HM.out.below⟩
  · replace c2_ := Bool.eq_false_iff.mpr c2_
    subst c2_
    have H1 : (some ([], false)) = some (r1, r2) := by rw [if_neg (show ¬ (false = true) by decide)] at H; exact H
    clear H
    have H := H1
    clear H1
    simp only [Option.some.injEq, Prod.mk.injEq] at H
    obtain ⟨rfl, rfl⟩ := H
    go_enter Try.func26, Try.ntmps26
    go_wp2_with (first | ((with_reducible refine gate_dst (N := 2) rfl ?_); refine box_event ?hg (N := 2) ?hd (cs := #[.slice A0_0 l0_0.length c0_0]) (t := 24) ?hr ?_; (case hd => rfl); (case hg => rfl); (case hr => first | (go_simp; done) | (go_simp; rfl)); intro gb1 hg w25_ hbox hb; have n_ := Aside0.mk (HM.out.addBox hb hbox hg); clear HM; have HM := n_; clear n_; clear hb hbox hg) | ((with_reducible refine gate_dst (N := 3) rfl ?_); refine box_event ?hg (N := 3) ?hd (cs := #[.int .i64 a1]) (t := 3) ?hr ?_; (case hd => rfl); (case hg => rfl); (case hr => first | (go_simp; done) | (go_simp; rfl)); intro gb2 hg w26_ hbox hb; have n_ := Aside0.mk (HM.out.addBox hb hbox hg); clear HM; have HM := n_; clear n_; clear hb hbox hg) | ((with_reducible refine gate_dst (N := 4) rfl ?_); refine box_event ?hg (N := 4) ?hd (cs := #[.slice none 0 0]) (t := 24) ?hr ?_; (case hd => rfl); (case hg => rfl); (case hr => first | (go_simp; done) | (go_simp; rfl)); intro gb3 hg w27_ hbox hb; have n_ := Aside0.mk (HM.out.addBox hb hbox hg); clear HM; have HM := n_; clear n_; clear hb hbox hg; have hcz28_0 : w27_.cell? ⟨gb1, 0, none⟩ = some (.slice A0_0 l0_0.length c0_0) := (blk_cell (HM.out.box 2 rfl) 0).trans rfl; have hfz28_0 := blk_frozen (HM.out.box 2 rfl) 0) | ((with_reducible refine gate_callee (f := 52) rfl ?_); (with_reducible refine gate_dst (N := 7) rfl ?_); refine goesL_ (some 7) rfl rfl Try.func52 (by kernel_rfl) rfl #[.agg #[.slice A0_0 l0_0.length c0_0]] rfl (by (try simp only [List.map_toArray, List.map_cons, List.map_nil]); first | done | rfl | (simp only [List.length_drop, List.length_take]; rfl)) ?_; (with_reducible refine (impl_isFamily.calls k _ _ l0_0 false _ ?sd0 ?sd1 A1_.out).mono ?_); (case sd0 => exact (Kd.C_below HR0_0.out HM.out.below)); (case sd1 => exact HC0_0.out); rintro e_ w29_ ⟨rfl, hb⟩; refine ⟨_, rfl, ?_⟩; have n_ := Aside0.mk (HM.out.step hb); clear HM; have HM := n_; clear n_; clear hb; have hcz31_0 : w29_.cell? ⟨gb3, 0, none⟩ = some (.slice none 0 0) := (blk_cell (HM.out.box 0 rfl) 0).trans rfl; have hfz31_0 := blk_frozen (HM.out.box 0 rfl) 0) | ((with_reducible refine gate_store (t := 24) (p := 4) rfl ?_); refine store_event (t := 24) (p := 4) (v := ?vow30_) (w1 := (w29_.setCell ⟨gb3, 0, none⟩ (.slice none 0 0))) ?hg ?ho ?hn ?hr ?_; (case ho => rfl); (case hg => rfl); (case hn => rfl); (case hr => first | (go_simp; done) | (go_simp; rfl)); intro w30_ hw; have n_ : Aside0 (MS w w30_ [.box gb3 24 #[.slice none 0 0], .box gb2 3 #[.int .i64 a1], .box gb1 24 #[.slice A0_0 l0_0.length c0_0]]) := ⟨by rw [hw]; exact HM.out.setBox 0 rfl _ _ rfl⟩; clear HM hw; have HM := n_; clear n_))
    refine bodyPost_ret (results_ct rfl _ _ gb3 24 #[.slice none 0 0] (0, 0) _ rfl (HM.out.box 0 rfl) Try.underlying24 rfl (by kernel_rfl)) rfl ?_
    exact ⟨_, by first | rfl | (simp; done) | (simp [*]; done), Kd.R_nil _ _ _ _ _, HM.out.below⟩

/-! ### spec_l5Within: function 59 -/
def spec_l5Within.l0 : Nat → (Int) → (Int) → (List Int) → Option (Bool)
  | 0, _, _, _ => none
  | k + 1, x1, x5, m1_0 => if x5 < (m1_0.length : Int) then (if 0 ≤ x5 then (if (rd m1_0 x5) < 0 then (some false) else (if 0 ≤ x1 then (if (shr .i64 (rd m1_0 x5) x1) > 0 then (some false) else (spec_l5Within.l0 k x1 (wrap64 (x5 + 1)) m1_0)) else (none))) else (none)) else ((spec_l5Family.f k m1_0).bind fun t171 => (some t171))
def spec_l5Within.f (k : Nat) (l0_0 : List Int) (a1 : Int) : Option (Bool) := spec_l5Within.l0 k a1 0 l0_0
set_option maxHeartbeats 8000000 in
set_option maxRecDepth 100000 in
theorem spec_l5Within.calls (k : Nat) (A0_0 : Option Addr) (c0_0 : Nat) (l0_0 : List Int) (a1 : Int) (r : Bool) (w : World) (hr0_0 : Kd.C (Kd.int .i64) w A0_0 l0_0.length l0_0) (hc0_0 : l0_0.length ≤ c0_0) (h : spec_l5Within.f k l0_0 a1 = some r) :
    Calls Try.prog 59 #[.agg #[.slice A0_0 l0_0.length c0_0], .int .i64 a1] w fun e w' => e = .returned (.bool r) ∧ Below w.heap.size w w' := by
  have HR0_0 := Aside0.mk hr0_0
  have HC0_0 := Aside0.mk hc0_0
  clear hr0_0 hc0_0
  have hu22 := Try.underlying22
  have hu24 := Try.underlying24
  have HM := Aside0.mk (MS.start w)
  have H : (spec_l5Within.l0 k a1 0 l0_0) = some r := h
  clear h
  have H' := Aside0.mk H
  clear H
  go_enter Try.func59, Try.ntmps59
  go_wp2_with (first | ((with_reducible refine gate_dst (N := 2) rfl ?_); refine box_event ?hg (N := 2) ?hd (cs := #[.slice A0_0 l0_0.length c0_0]) (t := 24) ?hr ?_; (case hd => rfl); (case hg => rfl); (case hr => first | (go_simp; done) | (go_simp; rfl)); intro gb1 hg w1_ hbox hb; have n_ := Aside0.mk (HM.out.addBox hb hbox hg); clear HM; have HM := n_; clear n_; clear hb hbox hg))
  go_loopg [5] k (fun kq v5 w' => ∃ (x5_2 : Int), v5 = .int .i64 x5_2 ∧ Aside0 (spec_l5Within.l0 kq a1 x5_2 l0_0 = some r) ∧ Aside0 (kq ≤ k) ∧ Aside0 (MS w w' [.box gb1 24 #[.slice A0_0 l0_0.length c0_0]]))
  case atStart => exact ⟨(0), (by first | rfl | (simp; done) | (simp [*]; done)), H', ⟨Nat.le_refl _⟩, HM⟩
  case round =>
    clear H'
    clear HM
    obtain ⟨x5_2, rfl, HA, HK3_, HM⟩ := hrel
    cases gk with
    | zero => exact absurd HA.out (by simp [spec_l5Within.l0])
    | succ k4_ =>
      have H := HA.out
      clear HA
      simp only [spec_l5Within.l0] at H
      by_cases c5_ : x5_2 < (l0_0.length : Int)
      · rw [if_pos c5_] at H
        have c5_b0 : decide (x5_2 < (l0_0.length : Int)) = true := decide_eq_true c5_
        clear c5_
        by_cases c6_ : 0 ≤ x5_2
        · rw [if_pos c6_] at H
          have c6_b0 : decide (0 ≤ x5_2) = true := decide_eq_true c6_
          clear c6_
          by_cases c7_ : (rd l0_0 x5_2) < 0
          · rw [if_pos c7_] at H
            have c7_b0 : decide ((rd l0_0 x5_2) < 0) = true := decide_eq_true c7_
            clear c7_
            obtain rfl := Option.some.inj H
            have hcz8_0 : wr.cell? ⟨gb1, 0, none⟩ = some (.slice A0_0 l0_0.length c0_0) := (blk_cell (HM.out.box 0 rfl) 0).trans rfl
            have hfz8_0 := blk_frozen (HM.out.box 0 rfl) 0
            have p169 : 0 ≤ (x5_2 : Int) := of_decide_eq_true (by first | (with_reducible assumption) | assumption)
            have q169 : (x5_2 : Int) < (l0_0.length : Int) := of_decide_eq_true (by first | (with_reducible assumption) | assumption)
            obtain ⟨ad169, e169, hx169⟩ := Kd.at_int HR0_0.out x5_2 p169 q169
            cases e169
            replace hx169 := (HM.out.below.cell (World.block_lt_of_cell? w _ hx169)).trans hx169
            replace p169 := eq_true p169
            replace q169 := eq_true q169
            go_wp2
            go_ret
            exact ⟨by first | rfl | (simp; done) | (simp [*]; done), HM.out.below⟩
          · rw [if_neg c7_] at H
            have c7_b0 : decide ((rd l0_0 x5_2) < 0) = false := decide_eq_false c7_
            clear c7_
            by_cases c9_ : 0 ≤ a1
            · rw [if_pos c9_] at H
              have c9_x := eq_true c9_
              have c9_b0 : decide (0 ≤ a1) = true := decide_eq_true c9_
              clear c9_
              obtain ⟨ji10_, hji10_⟩ : ∃ j_ : Int, (shr .i64 (rd l0_0 x5_2) a1) = j_ := ⟨_, rfl⟩
              replace H : (if ji10_ > 0 then (some false) else (spec_l5Within.l0 k4_ a1 (wrap64 (x5_2 + 1)) l0_0)) = some r := by first | (rw [hji10_] at H; exact H) | (simp only [hji10_] at H ⊢; exact H)
              have hji10__ : ((rd l0_0 x5_2) / 2 ^ min (a1).toNat 64) = ji10_ := hji10_
              have hji10_z : (a1) ≤ 64 → ((rd l0_0 x5_2) / 2 ^ (a1).toNat) = ji10_ := shr_small hji10_
              by_cases c11_ : ji10_ > 0
              · rw [if_pos c11_] at H
                have c11_b0 : decide (0 < ji10_) = true := decide_eq_true c11_
                clear c11_
                obtain rfl := Option.some.inj H
                have hcz12_0 : wr.cell? ⟨gb1, 0, none⟩ = some (.slice A0_0 l0_0.length c0_0) := (blk_cell (HM.out.box 0 rfl) 0).trans rfl
                have hfz12_0 := blk_frozen (HM.out.box 0 rfl) 0
                have p169 : 0 ≤ (x5_2 : Int) := of_decide_eq_true (by first | (with_reducible assumption) | assumption)
                have q169 : (x5_2 : Int) < (l0_0.length : Int) := of_decide_eq_true (by first | (with_reducible assumption) | assumption)
                obtain ⟨ad169, e169, hx169⟩ := Kd.at_int HR0_0.out x5_2 p169 q169
                cases e169
                replace hx169 := (HM.out.below.cell (World.block_lt_of_cell? w _ hx169)).trans hx169
                replace p169 := eq_true p169
                replace q169 := eq_true q169
                have p170 : 0 ≤ (x5_2 : Int) := of_decide_eq_true (by first | (with_reducible assumption) | assumption)
                have q170 : (x5_2 : Int) < (l0_0.length : Int) := of_decide_eq_true (by first | (with_reducible assumption) | assumption)
                obtain ⟨ad170, e170, hx170⟩ := Kd.at_int HR0_0.out x5_2 p170 q170
                obtain rfl : ad169 = ad170 := (by injection e170)
                replace hx170 := (HM.out.below.cell (World.block_lt_of_cell? w _ hx170)).trans hx170
                replace p170 := eq_true p170
                replace q170 := eq_true q170
                go_wp2
                go_ret
                exact ⟨by first | rfl | (simp; done) | (simp only [← hji10_] <;> (first | rfl | simp)) | (simp [*]; done), HM.out.below⟩
              · rw [if_neg c11_] at H
                have c11_b0 : decide (0 < ji10_) = false := decide_eq_false c11_
                clear c11_
                have H' := Aside0.mk H
                clear H
                have hcz13_0 : wr.cell? ⟨gb1, 0, none⟩ = some (.slice A0_0 l0_0.length c0_0) := (blk_cell (HM.out.box 0 rfl) 0).trans rfl
                have hfz13_0 := blk_frozen (HM.out.box 0 rfl) 0
                have p169 : 0 ≤ (x5_2 : Int) := of_decide_eq_true (by first | (with_reducible assumption) | assumption)
                have q169 : (x5_2 : Int) < (l0_0.length : Int) := of_decide_eq_true (by first | (with_reducible assumption) | assumption)
                obtain ⟨ad169, e169, hx169⟩ := Kd.at_int HR0_0.out x5_2 p169 q169
                cases e169
                replace hx169 := (HM.out.below.cell (World.block_lt_of_cell? w _ hx169)).trans hx169
                replace p169 := eq_true p169
                replace q169 := eq_true q169
                have p170 : 0 ≤ (x5_2 : Int) := of_decide_eq_true (by first | (with_reducible assumption) | assumption)
                have q170 : (x5_2 : Int) < (l0_0.length : Int) := of_decide_eq_true (by first | (with_reducible assumption) | assumption)
                obtain ⟨ad170, e170, hx170⟩ := Kd.at_int HR0_0.out x5_2 p170 q170
                obtain rfl : ad169 = ad170 := (by injection e170)
                replace hx170 := (HM.out.below.cell (World.block_lt_of_cell? w _ hx170)).trans hx170
                replace p170 := eq_true p170
                replace q170 := eq_true q170
                go_wp2
                go_roundg k4_
                case measure => have hHK3__ := HK3_.out; omega
                case rel => exact ⟨(wrap64 (x5_2 + 1)), (by first | rfl | (simp; done) | (simp only [← hji10_] <;> (first | rfl | simp)) | (simp [*]; done)), H', ⟨by have hHK3__ := HK3_.out; omega⟩, HM⟩
            · rw [if_neg c9_] at H
              have c9_b0 : decide (0 ≤ a1) = false := decide_eq_false c9_
              clear c9_
              exact absurd H (by simp)
        · rw [if_neg c6_] at H
          have c6_b0 : decide (0 ≤ x5_2) = false := decide_eq_false c6_
          clear c6_
          exact absurd H (by simp)
      · rw [if_neg c5_] at H
        have c5_b0 : decide (x5_2 < (l0_0.length : Int)) = false := decide_eq_false c5_
        clear c5_
        replace H := Option.bind_eq_some_iff.mp H
        obtain ⟨t171, A14_0, H⟩ := H
        replace H : (some t171) = some r := H
        have A14_ := Aside0.mk A14_0
        clear A14_0
        obtain rfl := Option.some.inj H
        have hcz15_0 : wr.cell? ⟨gb1, 0, none⟩ = some (.slice A0_0 l0_0.length c0_0) := (blk_cell (HM.out.box 0 rfl) 0).trans rfl
        have hfz15_0 := blk_frozen (HM.out.box 0 rfl) 0
        go_wp2_with (first | ((with_reducible refine gate_callee (f := 50) rfl ?_); (with_reducible refine gate_dst (N := 30) rfl ?_); refine goesL_ (some 30) rfl rfl Try.func50 (by kernel_rfl) rfl #[.agg #[.slice A0_0 l0_0.length c0_0]] rfl (by (try simp only [List.map_toArray, List.map_cons, List.map_nil]); first | done | rfl | (simp only [List.length_drop, List.length_take]; rfl)) ?_; (with_reducible refine (spec_l5Family.calls k4_ _ _ l0_0 t171 _ ?sd0 ?sd1 A14_.out).mono ?_); (case sd0 => exact (Kd.C_below HR0_0.out HM.out.below)); (case sd1 => exact HC0_0.out); rintro e_ w16_ ⟨rfl, hb⟩; refine ⟨_, rfl, ?_⟩; have n_ := Aside0.mk (HM.out.step hb); clear HM; have HM := n_; clear n_; clear hb))
        go_ret
        exact ⟨by first | rfl | (simp; done) | (simp [*]; done), HM.out.below⟩

/-! ### spec_l5Dual: function 61 -/
def spec_l5Dual.l0 : Nat → (Int) → (Int) → (List Bool) → (List Int) → Option (List Int)
  | 0, _, _, _, _ => none
  | k + 1, x5, x7, m3, m1_0 => if x7 < 64 then ((spec_l5Has.f k m1_0 (Go.bits .andNot .i64 x5 x7)).bind fun t172 => (if 0 ≤ x7 then (spec_l5Dual.l0 k x5 (wrap64 (x7 + 1)) (m3.set (x7 : Int).toNat (!t172)) m1_0) else (none))) else ((spec_l5Made.f k m3).bind fun t175 => (some t175))
def spec_l5Dual.f (k : Nat) (l0_0 : List Int) (a1 : Int) : Option (List Int) := if 0 ≤ a1 then (spec_l5Dual.l0 k (wrap64 ((shl .i64 1 a1) - 1)) 0 (List.replicate 64 false) l0_0) else (none)
set_option maxHeartbeats 8000000 in
set_option maxRecDepth 100000 in
theorem spec_l5Dual.calls (k : Nat) (A0_0 : Option Addr) (c0_0 : Nat) (l0_0 : List Int) (a1 : Int) (r : List Int) (w : World) (hr0_0 : Kd.C (Kd.int .i64) w A0_0 l0_0.length l0_0) (hc0_0 : l0_0.length ≤ c0_0) (h : spec_l5Dual.f k l0_0 a1 = some r) :
    Calls Try.prog 61 #[.agg #[.slice A0_0 l0_0.length c0_0], .int .i64 a1] w fun e w' => ∃ v0_ : Value, e = .returned (.agg #[v0_]) ∧ Kd.R (Kd.int .i64) 3 w' w.heap.size (fun _ => True) v0_ r ∧ Below w.heap.size w w' := by
  have HR0_0 := Aside0.mk hr0_0
  have HC0_0 := Aside0.mk hc0_0
  clear hr0_0 hc0_0
  have hu24 := Try.underlying24
  have hu46 := Try.underlying46
  have HM := Aside0.mk (MS.start w)
  have H : (if 0 ≤ a1 then (spec_l5Dual.l0 k (wrap64 ((shl .i64 1 a1) - 1)) 0 (List.replicate 64 false) l0_0) else (none)) = some r := h
  clear h
  by_cases c1_ : 0 ≤ a1
  · rw [if_pos c1_] at H
    have c1_x := eq_true c1_
    have c1_b0 : decide (0 ≤ a1) = true := decide_eq_true c1_
    clear c1_
    obtain ⟨ji2_, hji2_⟩ : ∃ j_ : Int, (shl .i64 1 a1) = j_ := ⟨_, rfl⟩
    replace H : (spec_l5Dual.l0 k (wrap64 (ji2_ - 1)) 0 (List.replicate 64 false) l0_0) = some r := by first | (rw [hji2_] at H; exact H) | (simp only [hji2_] at H ⊢; exact H)
    have hji2__ : (IntKind.i64.wrap (1 * 2 ^ min (a1).toNat 64)) = ji2_ := hji2_
    have hji2_z : (a1) ≤ 64 → (IntKind.i64.wrap (1 * 2 ^ (a1).toNat)) = ji2_ := shl_small hji2_
    have hji2_u : (IntKind.i64.wrap (2 ^ min (a1).toNat 64)) = ji2_ := by have h_ := hji2__; rw [Int.one_mul] at h_; exact h_
    have hji2_v : (a1) ≤ 64 → (IntKind.i64.wrap (2 ^ (a1).toNat)) = ji2_ := fun hle_ => by have h_ := hji2_z hle_; rw [Int.one_mul] at h_; exact h_
    have hji2_y : (wrap64 (1 * 2 ^ min (a1).toNat 64)) = ji2_ := (i64_w _).symm.trans hji2__
    have hji2_x : (a1) ≤ 64 → (wrap64 (1 * 2 ^ (a1).toNat)) = ji2_ := fun h_ => (i64_w _).symm.trans (hji2_z h_)
    have H' := Aside0.mk H
    clear H
    go_enter Try.func61, Try.ntmps61
    go_wp2_with (first | ((with_reducible refine gate_dst (N := 2) rfl ?_); refine box_event ?hg (N := 2) ?hd (cs := #[.slice A0_0 l0_0.length c0_0]) (t := 24) ?hr ?_; (case hd => rfl); (case hg => rfl); (case hr => first | (go_simp; done) | (go_simp; rfl)); intro gb1 hg w3_ hbox hb; have n_ := Aside0.mk (HM.out.addBox hb hbox hg); clear HM; have HM := n_; clear n_; clear hb hbox hg) | ((with_reducible refine gate_dst (N := 4) rfl ?_); refine box_event ?hg (N := 4) ?hd (cs := #[.slice none 0 0]) (t := 24) ?hr ?_; (case hd => rfl); (case hg => rfl); (case hr => first | (go_simp; done) | (go_simp; rfl)); intro gb2 hg w4_ hbox hb; have n_ := Aside0.mk (HM.out.addBox hb hbox hg); clear HM; have HM := n_; clear n_; clear hb hbox hg) | ((with_reducible refine gate_dst (N := 11) rfl ?_); refine build_zero ?hg (N := 11) ?hd (cs := (bcs (List.replicate 64 false))) ?hr ?_; (case hd => rfl); (case hg => rfl); (case hr => first | (go_simp; done) | (go_simp; rfl))) | ((with_reducible refine gate_dst (N := 6) rfl ?_); refine box_event ?hg (N := 6) ?hd (cs := (bcs (List.replicate 64 false))) (t := 46) ?hr ?_; (case hd => rfl); (case hg => rfl); (case hr => first | (go_simp; done) | (go_simp; rfl)); intro gb3 hg w5_ hbox hb; have n_ := Aside0.mk (HM.out.addBox hb hbox hg); clear HM; have HM := n_; clear n_; clear hb hbox hg) | ((with_reducible refine gate_store (t := 46) (p := 6) rfl ?_); refine wpList_store_row rfl _ _ _ rfl gb3 (bcs (List.replicate 64 false)) rfl rfl 46 (bcs (List.replicate 64 false)) (HM.out.box 0 rfl) (by rw [bcs_size, (List.length_replicate)]; kernel_rfl) ((bcs_size _).trans (((List.length_replicate)).trans ((show _ = 64 from (List.length_replicate)).symm.trans (bcs_size _).symm))) (bcs_one _) ?_; generalize hw : World.setRow _ _ _ = w6_; have n_ : Aside0 (MS w w6_ [.box gb3 46 (bcs (List.replicate 64 false)), .box gb2 24 #[.slice none 0 0], .box gb1 24 #[.slice A0_0 l0_0.length c0_0]]) := ⟨by rw [← hw]; exact HM.out.setRow 0 rfl _⟩; clear HM hw; have HM := n_; clear n_))
    go_loopg [7] k (fun kq v7 w' => ∃ (x7_7 : Int) (m3_7 : List Bool), v7 = .int .i64 x7_7 ∧ Aside0 (spec_l5Dual.l0 kq (wrap64 (ji2_ - 1)) x7_7 m3_7 l0_0 = some r) ∧ Aside0 (kq ≤ k) ∧ Aside0 (m3_7.length = 64) ∧ Aside0 (MS w w' [.box gb3 46 (bcs m3_7), .box gb2 24 #[.slice none 0 0], .box gb1 24 #[.slice A0_0 l0_0.length c0_0]]))
    case atStart => exact ⟨(0), ((List.replicate 64 false)), (by first | rfl | (simp; done) | (simp only [← hji2_] <;> (first | rfl | simp)) | (simp [*]; done)), H', ⟨Nat.le_refl _⟩, ⟨(List.length_replicate)⟩, HM⟩
    case round =>
      clear H'
      clear HM
      obtain ⟨x7_7, m3_7, rfl, HA, HK8_, HLm3_7, HM⟩ := hrel
      cases gk with
      | zero => exact absurd HA.out (by simp [spec_l5Dual.l0])
      | succ k9_ =>
        have H := HA.out
        clear HA
        simp only [spec_l5Dual.l0] at H
        by_cases c10_ : x7_7 < 64
        · rw [if_pos c10_] at H
          have c10_b0 : decide (x7_7 < 64) = true := decide_eq_true c10_
          clear c10_
          replace H := Option.bind_eq_some_iff.mp H
          obtain ⟨t172, A11_0, H⟩ := H
          replace H : (if 0 ≤ x7_7 then (spec_l5Dual.l0 k9_ (wrap64 (ji2_ - 1)) (wrap64 (x7_7 + 1)) (m3_7.set (x7_7 : Int).toNat (!t172)) l0_0) else (none)) = some r := H
          have A11_ := Aside0.mk A11_0
          clear A11_0
          by_cases c12_ : 0 ≤ x7_7
          · rw [if_pos c12_] at H
            have c12_b0 : decide (0 ≤ x7_7) = true := decide_eq_true c12_
            clear c12_
            obtain ⟨y173, hy173⟩ : ∃ y_, y_ = (m3_7.set (x7_7 : Int).toNat (!t172)) := ⟨_, rfl⟩
            replace H : (spec_l5Dual.l0 k9_ (wrap64 (ji2_ - 1)) (wrap64 (x7_7 + 1)) y173 l0_0) = some r := by first | (rw [hy173]; with_reducible exact H) | (have H2_ := (Option.bind_some _ _).symm.trans H; rw [hy173]; with_reducible exact H2_) | (have H2_ := (Option.bind_some _ _).symm.trans H; with_reducible exact H2_) | with_reducible exact H | (rw [hy173]; exact H) | exact H
            have Ny173 := Aside0.mk hy173
            clear hy173
            have H' := Aside0.mk H
            clear H
            have hcz13_0 : wr.cell? ⟨gb1, 0, none⟩ = some (.slice A0_0 l0_0.length c0_0) := (blk_cell (HM.out.box 2 rfl) 0).trans rfl
            have hfz13_0 := blk_frozen (HM.out.box 2 rfl) 0
            go_wp2_with (first | ((with_reducible refine gate_callee (f := 51) rfl ?_); (with_reducible refine gate_dst (N := 21) rfl ?_); refine goesL_ (some 21) rfl rfl Try.func51 (by kernel_rfl) rfl #[.agg #[.slice A0_0 l0_0.length c0_0], .int .i64 (Go.bits .andNot .i64 (wrap64 (ji2_ - 1)) x7_7)] rfl (by (try simp only [List.map_toArray, List.map_cons, List.map_nil]); first | done | rfl | (simp only [List.length_drop, List.length_take]; rfl)) ?_; (with_reducible refine (spec_l5Has.calls k9_ _ _ l0_0 (Go.bits .andNot .i64 (wrap64 (ji2_ - 1)) x7_7) t172 _ ?sd0 ?sd1 A11_.out).mono ?_); (case sd0 => exact (Kd.C_below HR0_0.out HM.out.below)); (case sd1 => exact HC0_0.out); rintro e_ w14_ ⟨rfl, hb⟩; refine ⟨_, rfl, ?_⟩; have n_ := Aside0.mk (HM.out.step hb); clear HM; have HM := n_; clear n_; clear hb; have p174 : 0 ≤ (x7_7 : Int) := of_decide_eq_true (by first | (with_reducible assumption) | assumption); have q174 : (x7_7 : Int) < 64 := of_decide_eq_true (by first | (with_reducible assumption) | assumption); have hx174 := bcell (HM.out.box 0 rfl) x7_7 p174 (by have := HLm3_7.out; omega); have hf174 := blk_frozen (HM.out.box 0 rfl) (x7_7 : Int).toNat; replace p174 := eq_true p174; replace q174 := eq_true q174) | ((with_reducible refine gate_store (t := 4) (p := 23) rfl ?_); refine store_event (t := 4) (p := 23) (v := ?vow15_) (w1 := (w14_.setCell ⟨gb3, (x7_7 : Int).toNat, none⟩ (.bool (!t172)))) ?hg ?ho ?hn ?hr ?_; (case ho => rfl); (case hg => rfl); (case hn => rfl); (case hr => first | (go_simp; done) | (go_simp; rfl)); intro w15_ hw; have n_ : Aside0 (MS w w15_ [.box gb3 46 (bcs y173), .box gb2 24 #[.slice none 0 0], .box gb1 24 #[.slice A0_0 l0_0.length c0_0]]) := ⟨by rw [hw]; exact HM.out.setBox 0 rfl _ _ (by rw [bcs_set, ← Ny173.out])⟩; clear HM hw; have HM := n_; clear n_))
            go_roundg k9_
            case measure => have hHK8__ := HK8_.out; omega
            case rel => exact ⟨(wrap64 (x7_7 + 1)), (y173), (by first | rfl | (simp; done) | (simp [*]; done)), H', ⟨by have hHK8__ := HK8_.out; omega⟩, ⟨(show y173.length = 64 from by rw [Ny173.out, List.length_set]; exact HLm3_7.out)⟩, HM⟩
          · rw [if_neg c12_] at H
            have c12_b0 : decide (0 ≤ x7_7) = false := decide_eq_false c12_
            clear c12_
            exact absurd H (by simp)
        · rw [if_neg c10_] at H
          have c10_b0 : decide (x7_7 < 64) = false := decide_eq_false c10_
          clear c10_
          replace H := Option.bind_eq_some_iff.mp H
          obtain ⟨t175, A16_0, H⟩ := H
          replace H : (some t175) = some r := H
          have A16_ := Aside0.mk A16_0
          clear A16_0
          obtain rfl := Option.some.inj H
          go_wp2_with (first | ((with_reducible refine gate_dst (N := 24) rfl ?_); refine wpList_load_row rfl _ _ rfl gb3 rfl 46 (bcs m3_7) (0, 0) _ (HM.out.box 0 rfl) Try.underlying46 rfl (by rw [bcs_size, HLm3_7.out]; kernel_rfl) ?_) | ((with_reducible refine gate_callee (f := 36) rfl ?_); (with_reducible refine gate_dst (N := 25) rfl ?_); refine goesL_ (some 25) rfl rfl Try.func36 (by kernel_rfl) rfl #[.agg (bcs m3_7)] rfl (by (try simp only [List.map_toArray, List.map_cons, List.map_nil]); first | done | rfl | (simp only [List.length_drop, List.length_take]; rfl)) ?_; (with_reducible refine (spec_l5Made.calls k9_ m3_7 t175 _ ?sd0 A16_.out).mono ?_); (case sd0 => exact HLm3_7.out); rintro e_ w17_ ⟨vv0_, rfl, ho0_, hb⟩; refine ⟨_, rfl, ?_⟩; obtain ⟨Ao4_0, co4_0, ev_⟩ := Kd.R_slice ho0_; subst ev_; have n_ := Aside0.mk (HM.out.addR hb ho0_); clear HM; have HM := n_; clear n_; clear hb ho0_; have hcz19_0 : w17_.cell? ⟨gb2, 0, none⟩ = some (.slice none 0 0) := (blk_cell (HM.out.box 2 rfl) 0).trans rfl; have hfz19_0 := blk_frozen (HM.out.box 2 rfl) 0) | ((with_reducible refine gate_store (t := 24) (p := 4) rfl ?_); refine store_event (t := 24) (p := 4) (v := ?vow18_) (w1 := (w17_.setCell ⟨gb2, 0, none⟩ (.slice Ao4_0 t175.length co4_0))) ?hg ?ho ?hn ?hr ?_; (case ho => rfl); (case hg => rfl); (case hn => rfl); (case hr => first | (go_simp; done) | (go_simp; rfl)); intro w18_ hw; have n_ : Aside0 (MS w w18_ [.row 3 (.slice Ao4_0 t175.length co4_0) (encs (Value.int .i64) t175), .box gb3 46 (bcs m3_7), .box gb2 24 #[.slice Ao4_0 t175.length co4_0], .box gb1 24 #[.slice A0_0 l0_0.length c0_0]]) := ⟨by rw [hw]; exact HM.out.setBox 2 rfl _ _ rfl⟩; clear HM hw; have HM := n_; clear n_))
          refine bodyPost_ret (results_cell_row rfl _ _ gb2 24 #[.slice Ao4_0 t175.length co4_0] (0, 0) _ rfl (HM.out.box 2 rfl) Try.underlying24 rfl (by kernel_rfl)) rfl ?_
          exact ⟨_, by first | rfl | (simp; done) | (simp [*]; done), HM.out.R 0 rfl, HM.out.below⟩
  · rw [if_neg c1_] at H
    have c1_b0 : decide (0 ≤ a1) = false := decide_eq_false c1_
    clear c1_
    exact absurd H (by simp)

/-! ### spec_DualFamily: function 33 -/
def spec_DualFamily.f (k : Nat) (l0_0 : List Int) (a1 : Int) : Option (List Int × Bool) := (spec_l1In.f a1 0 6).bind fun t176 => (if t176 = true then ((spec_l5Within.f k l0_0 a1).bind fun t177 => (if t177 = true then ((spec_l5Dual.f k l0_0 a1).bind fun t178 => (some (t178, true))) else (some ([], false)))) else (some ([], false)))
set_option maxHeartbeats 8000000 in
set_option maxRecDepth 100000 in
theorem spec_DualFamily.calls (k : Nat) (A0_0 : Option Addr) (c0_0 : Nat) (l0_0 : List Int) (a1 : Int) (r1 : List Int) (r2 : Bool) (w : World) (hr0_0 : Kd.C (Kd.int .i64) w A0_0 l0_0.length l0_0) (hc0_0 : l0_0.length ≤ c0_0) (h : spec_DualFamily.f k l0_0 a1 = some (r1, r2)) :
    Calls Try.prog 33 #[.agg #[.slice A0_0 l0_0.length c0_0], .int .i64 a1] w fun e w' => ∃ v0_ : Value, e = .returned (.tuple #[.agg #[v0_], .bool r2]) ∧ Kd.R (Kd.int .i64) 3 w' w.heap.size (fun _ => True) v0_ r1 ∧ Below w.heap.size w w' := by
  have HR0_0 := Aside0.mk hr0_0
  have HC0_0 := Aside0.mk hc0_0
  clear hr0_0 hc0_0
  have hu24 := Try.underlying24
  have HM := Aside0.mk (MS.start w)
  have H : ((spec_l1In.f a1 0 6).bind fun t176 => (if t176 = true then ((spec_l5Within.f k l0_0 a1).bind fun t177 => (if t177 = true then ((spec_l5Dual.f k l0_0 a1).bind fun t178 => (some (t178, true))) else (some ([], false)))) else (some ([], false)))) = some (r1, r2) := h
  clear h
  replace H := Option.bind_eq_some_iff.mp H
  obtain ⟨t176, A1_0, H⟩ := H
  replace H : (if t176 = true then ((spec_l5Within.f k l0_0 a1).bind fun t177 => (if t177 = true then ((spec_l5Dual.f k l0_0 a1).bind fun t178 => (some (t178, true))) else (some ([], false)))) else (some ([], false))) = some (r1, r2) := H
  have A1_ := Aside0.mk A1_0
  clear A1_0
  by_cases c2_ : t176 = true
  · subst c2_
    have H1 : ((spec_l5Within.f k l0_0 a1).bind fun t177 => (if t177 = true then ((spec_l5Dual.f k l0_0 a1).bind fun t178 => (some (t178, true))) else (some ([], false)))) = some (r1, r2) := by rw [if_pos rfl] at H; exact H
    clear H
    have H := H1
    clear H1
    replace H := Option.bind_eq_some_iff.mp H
    obtain ⟨t177, A3_0, H⟩ := H
    replace H : (if t177 = true then ((spec_l5Dual.f k l0_0 a1).bind fun t178 => (some (t178, true))) else (some ([], false))) = some (r1, r2) := H
    have A3_ := Aside0.mk A3_0
    clear A3_0
    by_cases c4_ : t177 = true
    · subst c4_
      have H1 : ((spec_l5Dual.f k l0_0 a1).bind fun t178 => (some (t178, true))) = some (r1, r2) := by rw [if_pos rfl] at H; exact H
      clear H
      have H := H1
      clear H1
      replace H := Option.bind_eq_some_iff.mp H
      obtain ⟨t178, A5_0, H⟩ := H
      replace H : (some (t178, true)) = some (r1, r2) := H
      have A5_ := Aside0.mk A5_0
      clear A5_0
      simp only [Option.some.injEq, Prod.mk.injEq] at H
      obtain ⟨rfl, rfl⟩ := H
      go_enter Try.func33, Try.ntmps33
      go_wp2_with (first | ((with_reducible refine gate_dst (N := 2) rfl ?_); refine box_event ?hg (N := 2) ?hd (cs := #[.slice A0_0 l0_0.length c0_0]) (t := 24) ?hr ?_; (case hd => rfl); (case hg => rfl); (case hr => first | (go_simp; done) | (go_simp; rfl)); intro gb1 hg w6_ hbox hb; have n_ := Aside0.mk (HM.out.addBox hb hbox hg); clear HM; have HM := n_; clear n_; clear hb hbox hg) | ((with_reducible refine gate_dst (N := 4) rfl ?_); refine box_event ?hg (N := 4) ?hd (cs := #[.slice none 0 0]) (t := 24) ?hr ?_; (case hd => rfl); (case hg => rfl); (case hr => first | (go_simp; done) | (go_simp; rfl)); intro gb2 hg w7_ hbox hb; have n_ := Aside0.mk (HM.out.addBox hb hbox hg); clear HM; have HM := n_; clear n_; clear hb hbox hg) | ((with_reducible refine gate_callee (f := 44) rfl ?_); (with_reducible refine gate_dst (N := 7) rfl ?_); refine goesL_ (some 7) rfl rfl Try.func44 (by kernel_rfl) rfl #[.int .i64 a1, .int .i64 0, .int .i64 6] rfl (by (try simp only [List.map_toArray, List.map_cons, List.map_nil]); first | done | rfl | (simp only [List.length_drop, List.length_take]; rfl)) ?_; (with_reducible refine (spec_l1In.calls a1 0 6 true _  A1_.out).mono ?_); rintro e_ w8_ ⟨rfl, hd_⟩; refine ⟨_, rfl, ?_⟩; have hb := hd_.below; clear hd_; have n_ := Aside0.mk (HM.out.step hb); clear HM; have HM := n_; clear n_; clear hb; have hcz9_0 : w8_.cell? ⟨gb1, 0, none⟩ = some (.slice A0_0 l0_0.length c0_0) := (blk_cell (HM.out.box 1 rfl) 0).trans rfl; have hfz9_0 := blk_frozen (HM.out.box 1 rfl) 0) | (go_at_call 59; (refine calls_of_args (args' := #[.agg #[.slice A0_0 l0_0.length c0_0], .int .i64 a1]) (by first | done | rfl) ?_); (with_reducible refine (spec_l5Within.calls k _ _ l0_0 a1 true _ ?sd0 ?sd1 A3_.out).mono ?_); (case sd0 => exact (Kd.C_below HR0_0.out HM.out.below)); (case sd1 => exact HC0_0.out); rintro e_ w10_ ⟨rfl, hb⟩; have n_ := Aside0.mk (HM.out.step hb); clear HM; have HM := n_; clear n_; clear hb; have hcz11_0 : w10_.cell? ⟨gb1, 0, none⟩ = some (.slice A0_0 l0_0.length c0_0) := (blk_cell (HM.out.box 1 rfl) 0).trans rfl; have hfz11_0 := blk_frozen (HM.out.box 1 rfl) 0) | ((with_reducible refine gate_callee (f := 61) rfl ?_); (with_reducible refine gate_dst (N := 18) rfl ?_); refine goesL_ (some 18) rfl rfl Try.func61 (by kernel_rfl) rfl #[.agg #[.slice A0_0 l0_0.length c0_0], .int .i64 a1] rfl (by (try simp only [List.map_toArray, List.map_cons, List.map_nil]); first | done | rfl | (simp only [List.length_drop, List.length_take]; rfl)) ?_; (with_reducible refine (spec_l5Dual.calls k _ _ l0_0 a1 t178 _ ?sd0 ?sd1 A5_.out).mono ?_); (case sd0 => exact (Kd.C_below HR0_0.out HM.out.below)); (case sd1 => exact HC0_0.out); rintro e_ w12_ ⟨vv0_, rfl, ho0_, hb⟩; refine ⟨_, rfl, ?_⟩; obtain ⟨Ao3_0, co3_0, ev_⟩ := Kd.R_slice ho0_; subst ev_; have n_ := Aside0.mk (HM.out.addR hb ho0_); clear HM; have HM := n_; clear n_; clear hb ho0_; have hcz14_0 : w12_.cell? ⟨gb2, 0, none⟩ = some (.slice none 0 0) := (blk_cell (HM.out.box 1 rfl) 0).trans rfl; have hfz14_0 := blk_frozen (HM.out.box 1 rfl) 0) | ((with_reducible refine gate_store (t := 24) (p := 4) rfl ?_); refine store_event (t := 24) (p := 4) (v := ?vow13_) (w1 := (w12_.setCell ⟨gb2, 0, none⟩ (.slice Ao3_0 t178.length co3_0))) ?hg ?ho ?hn ?hr ?_; (case ho => rfl); (case hg => rfl); (case hn => rfl); (case hr => first | (go_simp; done) | (go_simp; rfl)); intro w13_ hw; have n_ : Aside0 (MS w w13_ [.row 3 (.slice Ao3_0 t178.length co3_0) (encs (Value.int .i64) t178), .box gb2 24 #[.slice Ao3_0 t178.length co3_0], .box gb1 24 #[.slice A0_0 l0_0.length c0_0]]) := ⟨by rw [hw]; exact HM.out.setBox 1 rfl _ _ rfl⟩; clear HM hw; have HM := n_; clear n_))
      refine bodyPost_ret (results_ct rfl _ _ gb2 24 #[.slice Ao3_0 t178.length co3_0] (0, 0) _ rfl (HM.out.box 1 rfl) Try.underlying24 rfl (by kernel_rfl)) rfl ?_
      exact ⟨_, by first | rfl | (simp; done) | (simp [*]; done), HM.out.R 0 rfl, HM.out.below⟩
    · replace c4_ := Bool.eq_false_iff.mpr c4_
      subst c4_
      have H1 : (some ([], false)) = some (r1, r2) := by rw [if_neg (show ¬ (false = true) by decide)] at H; exact H
      clear H
      have H := H1
      clear H1
      simp only [Option.some.injEq, Prod.mk.injEq] at H
      obtain ⟨rfl, rfl⟩ := H
      go_enter Try.func33, Try.ntmps33
      go_wp2_with (first | ((with_reducible refine gate_dst (N := 2) rfl ?_); refine box_event ?hg (N := 2) ?hd (cs := #[.slice A0_0 l0_0.length c0_0]) (t := 24) ?hr ?_; (case hd => rfl); (case hg => rfl); (case hr => first | (go_simp; done) | (go_simp; rfl)); intro gb1 hg w15_ hbox hb; have n_ := Aside0.mk (HM.out.addBox hb hbox hg); clear HM; have HM := n_; clear n_; clear hb hbox hg) | ((with_reducible refine gate_dst (N := 4) rfl ?_); refine box_event ?hg (N := 4) ?hd (cs := #[.slice none 0 0]) (t := 24) ?hr ?_; (case hd => rfl); (case hg => rfl); (case hr => first | (go_simp; done) | (go_simp; rfl)); intro gb2 hg w16_ hbox hb; have n_ := Aside0.mk (HM.out.addBox hb hbox hg); clear HM; have HM := n_; clear n_; clear hb hbox hg) | ((with_reducible refine gate_callee (f := 44) rfl ?_); (with_reducible refine gate_dst (N := 7) rfl ?_); refine goesL_ (some 7) rfl rfl Try.func44 (by kernel_rfl) rfl #[.int .i64 a1, .int .i64 0, .int .i64 6] rfl (by (try simp only [List.map_toArray, List.map_cons, List.map_nil]); first | done | rfl | (simp only [List.length_drop, List.length_take]; rfl)) ?_; (with_reducible refine (spec_l1In.calls a1 0 6 true _  A1_.out).mono ?_); rintro e_ w17_ ⟨rfl, hd_⟩; refine ⟨_, rfl, ?_⟩; have hb := hd_.below; clear hd_; have n_ := Aside0.mk (HM.out.step hb); clear HM; have HM := n_; clear n_; clear hb; have hcz18_0 : w17_.cell? ⟨gb1, 0, none⟩ = some (.slice A0_0 l0_0.length c0_0) := (blk_cell (HM.out.box 1 rfl) 0).trans rfl; have hfz18_0 := blk_frozen (HM.out.box 1 rfl) 0) | (go_at_call 59; (refine calls_of_args (args' := #[.agg #[.slice A0_0 l0_0.length c0_0], .int .i64 a1]) (by first | done | rfl) ?_); (with_reducible refine (spec_l5Within.calls k _ _ l0_0 a1 false _ ?sd0 ?sd1 A3_.out).mono ?_); (case sd0 => exact (Kd.C_below HR0_0.out HM.out.below)); (case sd1 => exact HC0_0.out); rintro e_ w19_ ⟨rfl, hb⟩; have n_ := Aside0.mk (HM.out.step hb); clear HM; have HM := n_; clear n_; clear hb; have hcz21_0 : w19_.cell? ⟨gb2, 0, none⟩ = some (.slice none 0 0) := (blk_cell (HM.out.box 0 rfl) 0).trans rfl; have hfz21_0 := blk_frozen (HM.out.box 0 rfl) 0) | ((with_reducible refine gate_store (t := 24) (p := 4) rfl ?_); refine store_event (t := 24) (p := 4) (v := ?vow20_) (w1 := (w19_.setCell ⟨gb2, 0, none⟩ (.slice none 0 0))) ?hg ?ho ?hn ?hr ?_; (case ho => rfl); (case hg => rfl); (case hn => rfl); (case hr => first | (go_simp; done) | (go_simp; rfl)); intro w20_ hw; have n_ : Aside0 (MS w w20_ [.box gb2 24 #[.slice none 0 0], .box gb1 24 #[.slice A0_0 l0_0.length c0_0]]) := ⟨by rw [hw]; exact HM.out.setBox 0 rfl _ _ rfl⟩; clear HM hw; have HM := n_; clear n_))
      refine bodyPost_ret (results_ct rfl _ _ gb2 24 #[.slice none 0 0] (0, 0) _ rfl (HM.out.box 0 rfl) Try.underlying24 rfl (by kernel_rfl)) rfl ?_
      exact ⟨_, by first | rfl | (simp; done) | (simp [*]; done), Kd.R_nil _ _ _ _ _, HM.out.below⟩
  · replace c2_ := Bool.eq_false_iff.mpr c2_
    subst c2_
    have H1 : (some ([], false)) = some (r1, r2) := by rw [if_neg (show ¬ (false = true) by decide)] at H; exact H
    clear H
    have H := H1
    clear H1
    simp only [Option.some.injEq, Prod.mk.injEq] at H
    obtain ⟨rfl, rfl⟩ := H
    go_enter Try.func33, Try.ntmps33
    go_wp2_with (first | ((with_reducible refine gate_dst (N := 2) rfl ?_); refine box_event ?hg (N := 2) ?hd (cs := #[.slice A0_0 l0_0.length c0_0]) (t := 24) ?hr ?_; (case hd => rfl); (case hg => rfl); (case hr => first | (go_simp; done) | (go_simp; rfl)); intro gb1 hg w22_ hbox hb; have n_ := Aside0.mk (HM.out.addBox hb hbox hg); clear HM; have HM := n_; clear n_; clear hb hbox hg) | ((with_reducible refine gate_dst (N := 4) rfl ?_); refine box_event ?hg (N := 4) ?hd (cs := #[.slice none 0 0]) (t := 24) ?hr ?_; (case hd => rfl); (case hg => rfl); (case hr => first | (go_simp; done) | (go_simp; rfl)); intro gb2 hg w23_ hbox hb; have n_ := Aside0.mk (HM.out.addBox hb hbox hg); clear HM; have HM := n_; clear n_; clear hb hbox hg) | ((with_reducible refine gate_callee (f := 44) rfl ?_); (with_reducible refine gate_dst (N := 7) rfl ?_); refine goesL_ (some 7) rfl rfl Try.func44 (by kernel_rfl) rfl #[.int .i64 a1, .int .i64 0, .int .i64 6] rfl (by (try simp only [List.map_toArray, List.map_cons, List.map_nil]); first | done | rfl | (simp only [List.length_drop, List.length_take]; rfl)) ?_; (with_reducible refine (spec_l1In.calls a1 0 6 false _  A1_.out).mono ?_); rintro e_ w24_ ⟨rfl, hd_⟩; refine ⟨_, rfl, ?_⟩; have hb := hd_.below; clear hd_; have n_ := Aside0.mk (HM.out.step hb); clear HM; have HM := n_; clear n_; clear hb; have hcz26_0 : w24_.cell? ⟨gb2, 0, none⟩ = some (.slice none 0 0) := (blk_cell (HM.out.box 0 rfl) 0).trans rfl; have hfz26_0 := blk_frozen (HM.out.box 0 rfl) 0) | ((with_reducible refine gate_store (t := 24) (p := 4) rfl ?_); refine store_event (t := 24) (p := 4) (v := ?vow25_) (w1 := (w24_.setCell ⟨gb2, 0, none⟩ (.slice none 0 0))) ?hg ?ho ?hn ?hr ?_; (case ho => rfl); (case hg => rfl); (case hn => rfl); (case hr => first | (go_simp; done) | (go_simp; rfl)); intro w25_ hw; have n_ : Aside0 (MS w w25_ [.box gb2 24 #[.slice none 0 0], .box gb1 24 #[.slice A0_0 l0_0.length c0_0]]) := ⟨by rw [hw]; exact HM.out.setBox 0 rfl _ _ rfl⟩; clear HM hw; have HM := n_; clear n_))
    refine bodyPost_ret (results_ct rfl _ _ gb2 24 #[.slice none 0 0] (0, 0) _ rfl (HM.out.box 0 rfl) Try.underlying24 rfl (by kernel_rfl)) rfl ?_
    exact ⟨_, by first | rfl | (simp; done) | (simp [*]; done), Kd.R_nil _ _ _ _ _, HM.out.below⟩

/-! ### impl_isFew: function 46 -/
def impl_isFew.f (a0 : Int) : Option (Bool) := if a0 ≥ 0 then (some (decide (a0 ≤ 6))) else (some false)
set_option maxHeartbeats 8000000 in
set_option maxRecDepth 100000 in
theorem impl_isFew.calls (a0 : Int) (r : Bool) (w : World)  (h : impl_isFew.f a0 = some r) :
    Calls Try.prog 46 #[.int .i64 a0] w fun e w' => e = .returned (.bool r) ∧ Drawn0 w w' := by
  have HM := Aside0.mk (MS.start w)
  have HD := Aside0.mk (Drawn0.refl w)
  have H : (if a0 ≥ 0 then (some (decide (a0 ≤ 6))) else (some false)) = some r := h
  clear h
  by_cases c1_ : a0 ≥ 0
  · rw [if_pos c1_] at H
    have KNc1_ := Aside0.mk c1_
    have c1_b0 : decide (0 ≤ a0) = true := decide_eq_true c1_
    clear c1_
    obtain rfl := Option.some.inj H
    go_enter Try.func46, Try.ntmps46
    go_wp2
    go_ret
    exact ⟨by first | rfl | (simp; done) | (simp [*]; done), HD.out⟩
  · rw [if_neg c1_] at H
    have KNc1_ := Aside0.mk c1_
    have c1_b0 : decide (0 ≤ a0) = false := decide_eq_false c1_
    clear c1_
    obtain rfl := Option.some.inj H
    go_enter Try.func46, Try.ntmps46
    go_wp2
    go_ret
    exact ⟨by first | rfl | (simp; done) | (simp [*]; done), HD.out⟩

/-! ### impl_DualFamily_1: function 63 -/
def impl_DualFamily_1.f (a0 : Int) (a1 : Int) : Option (Bool) := some ((Go.bits .andNot .i64 a0 a1) != 0)
set_option maxHeartbeats 8000000 in
set_option maxRecDepth 100000 in
theorem impl_DualFamily_1.calls (a0 : Int) (gb1 : Nat) (a1 : Int) (r : Bool) (w : World) (hq1 : w.heap[gb1]? = some (.cells #[.int .i64 a1] 3 (0, 0))) (h : impl_DualFamily_1.f a0 a1 = some r) :
    Calls Try.prog 63 #[.int .i64 a0, .pointer (some ⟨gb1, 0, none⟩)] w fun e w' => e = .returned (.bool r) ∧ Drawn0 w w' := by
  have HQ1 := Aside0.mk hq1
  clear hq1
  have HM := Aside0.mk (MS.start w)
  have HD := Aside0.mk (Drawn0.refl w)
  have H : (some ((Go.bits .andNot .i64 a0 a1) != 0)) = some r := h
  clear h
  obtain rfl := Option.some.inj H
  have hcz1_0 : w.cell? ⟨gb1, 0, none⟩ = some (.int .i64 a1) := (blk_cell (blk_below HQ1.out HM.out.below) 0).trans rfl
  have hfz1_0 := blk_frozen (blk_below HQ1.out HM.out.below) 0
  go_enter Try.func63, Try.ntmps63
  go_wp2
  go_ret
  exact ⟨by first | rfl | (simp; done) | (simp [*]; done), HD.out⟩

/-! ### impl_DualFamily_2: function 64 -/
def impl_DualFamily_2.f (k : Nat) (a0 : Int) (l1_0 : List Int) (a2 : Int) : Option (Bool) := (impl_Family_has.f k l1_0 (Go.bits .andNot .i64 a2 a0)).bind fun t179 => (some (!t179))
set_option maxHeartbeats 8000000 in
set_option maxRecDepth 100000 in
theorem impl_DualFamily_2.calls (k : Nat) (a0 : Int) (gb1 : Nat) (A1_0 : Option Addr) (c1_0 : Nat) (l1_0 : List Int) (gb2 : Nat) (a2 : Int) (r : Bool) (w : World) (hr1_0 : Kd.C (Kd.int .i64) w A1_0 l1_0.length l1_0) (hc1_0 : l1_0.length ≤ c1_0) (hq1 : w.heap[gb1]? = some (.cells #[.slice A1_0 l1_0.length c1_0] 24 (0, 0))) (hq2 : w.heap[gb2]? = some (.cells #[.int .i64 a2] 3 (0, 0))) (h : impl_DualFamily_2.f k a0 l1_0 a2 = some r) :
    Calls Try.prog 64 #[.int .i64 a0, .pointer (some ⟨gb1, 0, none⟩), .pointer (some ⟨gb2, 0, none⟩)] w fun e w' => e = .returned (.bool r) ∧ Below w.heap.size w w' := by
  have HR1_0 := Aside0.mk hr1_0
  have HC1_0 := Aside0.mk hc1_0
  clear hr1_0 hc1_0
  have HQ1 := Aside0.mk hq1
  clear hq1
  have HQ2 := Aside0.mk hq2
  clear hq2
  have hu24 := Try.underlying24
  have HM := Aside0.mk (MS.start w)
  have H : ((impl_Family_has.f k l1_0 (Go.bits .andNot .i64 a2 a0)).bind fun t179 => (some (!t179))) = some r := h
  clear h
  replace H := Option.bind_eq_some_iff.mp H
  obtain ⟨t179, A1_0, H⟩ := H
  replace H : (some (!t179)) = some r := H
  have A1_ := Aside0.mk A1_0
  clear A1_0
  obtain rfl := Option.some.inj H
  have hcz2_0 : w.cell? ⟨gb1, 0, none⟩ = some (.slice A1_0 l1_0.length c1_0) := (blk_cell (blk_below HQ1.out HM.out.below) 0).trans rfl
  have hfz2_0 := blk_frozen (blk_below HQ1.out HM.out.below) 0
  have hcz3_0 : w.cell? ⟨gb2, 0, none⟩ = some (.int .i64 a2) := (blk_cell (blk_below HQ2.out HM.out.below) 0).trans rfl
  have hfz3_0 := blk_frozen (blk_below HQ2.out HM.out.below) 0
  go_enter Try.func64, Try.ntmps64
  go_wp2_with (first | ((with_reducible refine gate_callee (f := 42) rfl ?_); (with_reducible refine gate_dst (N := 9) rfl ?_); refine goesL_ (some 9) rfl rfl Try.func42 (by kernel_rfl) rfl #[.agg #[.slice A1_0 l1_0.length c1_0], .int .i64 (Go.bits .andNot .i64 a2 a0)] rfl (by (try simp only [List.map_toArray, List.map_cons, List.map_nil]); first | done | rfl | (simp only [List.length_drop, List.length_take]; rfl)) ?_; (with_reducible refine (impl_Family_has.calls k _ _ l1_0 (Go.bits .andNot .i64 a2 a0) t179 _ ?sd0 ?sd1 A1_.out).mono ?_); (case sd0 => exact (Kd.C_below HR1_0.out HM.out.below)); (case sd1 => exact HC1_0.out); rintro e_ w4_ ⟨rfl, hb⟩; refine ⟨_, rfl, ?_⟩; have n_ := Aside0.mk (HM.out.step hb); clear HM; have HM := n_; clear n_; clear hb))
  go_ret
  exact ⟨by first | rfl | (simp; done) | (simp [*]; done), HM.out.below⟩

/-! ### impl_DualFamily: function 34 -/
def impl_DualFamily.f (k : Nat) (l0_0 : List Int) (a1 : Int) : Option (List Int × Bool) := (impl_isFamily.f k l0_0).bind fun t180 => (if t180 = true then ((impl_isFew.f a1).bind fun t181 => (if t181 = true then (if 0 ≤ a1 then ((slices_ContainsFunc_int_int.f k l0_0 (fun x_ => impl_DualFamily_1.f x_ (wrap64 ((shl .i64 1 a1) - 1)))).bind fun t183 => (if t183 = true then (some ([], false)) else ((impl_familyOf.f k (fun x_ => impl_DualFamily_2.f k x_ l0_0 (wrap64 ((shl .i64 1 a1) - 1)))).bind fun t185 => (some (t185, true))))) else (none)) else (some ([], false)))) else (some ([], false)))
set_option maxHeartbeats 8000000 in
set_option maxRecDepth 100000 in
theorem impl_DualFamily.calls (k : Nat) (A0_0 : Option Addr) (c0_0 : Nat) (l0_0 : List Int) (a1 : Int) (r1 : List Int) (r2 : Bool) (w : World) (hr0_0 : Kd.C (Kd.int .i64) w A0_0 l0_0.length l0_0) (hc0_0 : l0_0.length ≤ c0_0) (h : impl_DualFamily.f k l0_0 a1 = some (r1, r2)) :
    Calls Try.prog 34 #[.agg #[.slice A0_0 l0_0.length c0_0], .int .i64 a1] w fun e w' => ∃ v0_ : Value, e = .returned (.tuple #[.agg #[v0_], .bool r2]) ∧ Kd.R (Kd.int .i64) 3 w' w.heap.size (fun _ => True) v0_ r1 ∧ Below w.heap.size w w' := by
  have HR0_0 := Aside0.mk hr0_0
  have HC0_0 := Aside0.mk hc0_0
  clear hr0_0 hc0_0
  have hu22 := Try.underlying22
  have hu24 := Try.underlying24
  have HM := Aside0.mk (MS.start w)
  have H : ((impl_isFamily.f k l0_0).bind fun t180 => (if t180 = true then ((impl_isFew.f a1).bind fun t181 => (if t181 = true then (if 0 ≤ a1 then ((slices_ContainsFunc_int_int.f k l0_0 (fun x_ => impl_DualFamily_1.f x_ (wrap64 ((shl .i64 1 a1) - 1)))).bind fun t183 => (if t183 = true then (some ([], false)) else ((impl_familyOf.f k (fun x_ => impl_DualFamily_2.f k x_ l0_0 (wrap64 ((shl .i64 1 a1) - 1)))).bind fun t185 => (some (t185, true))))) else (none)) else (some ([], false)))) else (some ([], false)))) = some (r1, r2) := h
  clear h
  replace H := Option.bind_eq_some_iff.mp H
  obtain ⟨t180, A1_0, H⟩ := H
  replace H : (if t180 = true then ((impl_isFew.f a1).bind fun t181 => (if t181 = true then (if 0 ≤ a1 then ((slices_ContainsFunc_int_int.f k l0_0 (fun x_ => impl_DualFamily_1.f x_ (wrap64 ((shl .i64 1 a1) - 1)))).bind fun t183 => (if t183 = true then (some ([], false)) else ((impl_familyOf.f k (fun x_ => impl_DualFamily_2.f k x_ l0_0 (wrap64 ((shl .i64 1 a1) - 1)))).bind fun t185 => (some (t185, true))))) else (none)) else (some ([], false)))) else (some ([], false))) = some (r1, r2) := H
  have A1_ := Aside0.mk A1_0
  clear A1_0
  by_cases c2_ : t180 = true
  · subst c2_
    have H1 : ((impl_isFew.f a1).bind fun t181 => (if t181 = true then (if 0 ≤ a1 then ((slices_ContainsFunc_int_int.f k l0_0 (fun x_ => impl_DualFamily_1.f x_ (wrap64 ((shl .i64 1 a1) - 1)))).bind fun t183 => (if t183 = true then (some ([], false)) else ((impl_familyOf.f k (fun x_ => impl_DualFamily_2.f k x_ l0_0 (wrap64 ((shl .i64 1 a1) - 1)))).bind fun t185 => (some (t185, true))))) else (none)) else (some ([], false)))) = some (r1, r2) := by rw [if_pos rfl] at H; exact H
    clear H
    have H := H1
    clear H1
    replace H := Option.bind_eq_some_iff.mp H
    obtain ⟨t181, A3_0, H⟩ := H
    replace H : (if t181 = true then (if 0 ≤ a1 then ((slices_ContainsFunc_int_int.f k l0_0 (fun x_ => impl_DualFamily_1.f x_ (wrap64 ((shl .i64 1 a1) - 1)))).bind fun t183 => (if t183 = true then (some ([], false)) else ((impl_familyOf.f k (fun x_ => impl_DualFamily_2.f k x_ l0_0 (wrap64 ((shl .i64 1 a1) - 1)))).bind fun t185 => (some (t185, true))))) else (none)) else (some ([], false))) = some (r1, r2) := H
    have A3_ := Aside0.mk A3_0
    clear A3_0
    by_cases c4_ : t181 = true
    · subst c4_
      have H1 : (if 0 ≤ a1 then ((slices_ContainsFunc_int_int.f k l0_0 (fun x_ => impl_DualFamily_1.f x_ (wrap64 ((shl .i64 1 a1) - 1)))).bind fun t183 => (if t183 = true then (some ([], false)) else ((impl_familyOf.f k (fun x_ => impl_DualFamily_2.f k x_ l0_0 (wrap64 ((shl .i64 1 a1) - 1)))).bind fun t185 => (some (t185, true))))) else (none)) = some (r1, r2) := by rw [if_pos rfl] at H; exact H
      clear H
      have H := H1
      clear H1
      by_cases c5_ : 0 ≤ a1
      · rw [if_pos c5_] at H
        have c5_x := eq_true c5_
        have c5_b0 : decide (0 ≤ a1) = true := decide_eq_true c5_
        clear c5_
        obtain ⟨ji6_, hji6_⟩ : ∃ j_ : Int, (shl .i64 1 a1) = j_ := ⟨_, rfl⟩
        replace H : ((slices_ContainsFunc_int_int.f k l0_0 (fun x_ => impl_DualFamily_1.f x_ (wrap64 (ji6_ - 1)))).bind fun t183 => (if t183 = true then (some ([], false)) else ((impl_familyOf.f k (fun x_ => impl_DualFamily_2.f k x_ l0_0 (wrap64 (ji6_ - 1)))).bind fun t185 => (some (t185, true))))) = some (r1, r2) := by first | (rw [hji6_] at H; exact H) | (simp only [hji6_] at H ⊢; exact H)
        have hji6__ : (IntKind.i64.wrap (1 * 2 ^ min (a1).toNat 64)) = ji6_ := hji6_
        have hji6_z : (a1) ≤ 64 → (IntKind.i64.wrap (1 * 2 ^ (a1).toNat)) = ji6_ := shl_small hji6_
        have hji6_u : (IntKind.i64.wrap (2 ^ min (a1).toNat 64)) = ji6_ := by have h_ := hji6__; rw [Int.one_mul] at h_; exact h_
        have hji6_v : (a1) ≤ 64 → (IntKind.i64.wrap (2 ^ (a1).toNat)) = ji6_ := fun hle_ => by have h_ := hji6_z hle_; rw [Int.one_mul] at h_; exact h_
        have hji6_y : (wrap64 (1 * 2 ^ min (a1).toNat 64)) = ji6_ := (i64_w _).symm.trans hji6__
        have hji6_x : (a1) ≤ 64 → (wrap64 (1 * 2 ^ (a1).toNat)) = ji6_ := fun h_ => (i64_w _).symm.trans (hji6_z h_)
        replace H := Option.bind_eq_some_iff.mp H
        obtain ⟨t183, A7_0, H⟩ := H
        replace H : (if t183 = true then (some ([], false)) else ((impl_familyOf.f k (fun x_ => impl_DualFamily_2.f k x_ l0_0 (wrap64 (ji6_ - 1)))).bind fun t185 => (some (t185, true)))) = some (r1, r2) := H
        have A7_ := Aside0.mk A7_0
        clear A7_0
        by_cases c8_ : t183 = true
        · subst c8_
          have H1 : (some ([], false)) = some (r1, r2) := by rw [if_pos rfl] at H; exact H
          clear H
          have H := H1
          clear H1
          simp only [Option.some.injEq, Prod.mk.injEq] at H
          obtain ⟨rfl, rfl⟩ := H
          go_enter Try.func34, Try.ntmps34
          go_wp2_with (first | ((with_reducible refine gate_dst (N := 2) rfl ?_); refine box_event ?hg (N := 2) ?hd (cs := #[.slice A0_0 l0_0.length c0_0]) (t := 24) ?hr ?_; (case hd => rfl); (case hg => rfl); (case hr => first | (go_simp; done) | (go_simp; rfl)); intro gb1 hg w9_ hbox hb; have n_ := Aside0.mk (HM.out.addBox hb hbox hg); clear HM; have HM := n_; clear n_; clear hb hbox hg) | ((with_reducible refine gate_dst (N := 4) rfl ?_); refine box_event ?hg (N := 4) ?hd (cs := #[.slice none 0 0]) (t := 24) ?hr ?_; (case hd => rfl); (case hg => rfl); (case hr => first | (go_simp; done) | (go_simp; rfl)); intro gb2 hg w10_ hbox hb; have n_ := Aside0.mk (HM.out.addBox hb hbox hg); clear HM; have HM := n_; clear n_; clear hb hbox hg; have hcz11_0 : w10_.cell? ⟨gb1, 0, none⟩ = some (.slice A0_0 l0_0.length c0_0) := (blk_cell (HM.out.box 1 rfl) 0).trans rfl; have hfz11_0 := blk_frozen (HM.out.box 1 rfl) 0) | ((with_reducible refine gate_callee (f := 52) rfl ?_); (with_reducible refine gate_dst (N := 8) rfl ?_); refine goesL_ (some 8) rfl rfl Try.func52 (by kernel_rfl) rfl #[.agg #[.slice A0_0 l0_0.length c0_0]] rfl (by (try simp only [List.map_toArray, List.map_cons, List.map_nil]); first | done | rfl | (simp only [List.length_drop, List.length_take]; rfl)) ?_; (with_reducible refine (impl_isFamily.calls k _ _ l0_0 true _ ?sd0 ?sd1 A1_.out).mono ?_); (case sd0 => exact (Kd.C_below HR0_0.out HM.out.below)); (case sd1 => exact HC0_0.out); rintro e_ w12_ ⟨rfl, hb⟩; refine ⟨_, rfl, ?_⟩; have n_ := Aside0.mk (HM.out.step hb); clear HM; have HM := n_; clear n_; clear hb) | (go_at_call 46; (refine calls_of_args (args' := #[.int .i64 a1]) (by first | done | rfl) ?_); (with_reducible refine (impl_isFew.calls a1 true _  A3_.out).mono ?_); rintro e_ w13_ ⟨rfl, hd_⟩; have hb := hd_.below; clear hd_; have n_ := Aside0.mk (HM.out.step hb); clear HM; have HM := n_; clear n_; clear hb) | ((with_reducible refine gate_dst (N := 6) rfl ?_); refine box_event ?hg (N := 6) ?hd (cs := #[.int .i64 0]) (t := 3) ?hr ?_; (case hd => rfl); (case hg => rfl); (case hr => first | (go_simp; done) | (go_simp; rfl)); intro gb3 hg w14_ hbox hb; have n_ := Aside0.mk (HM.out.addBox hb hbox hg); clear HM; have HM := n_; clear n_; clear hb hbox hg; have hcz16_0 : w14_.cell? ⟨gb3, 0, none⟩ = some (.int .i64 0) := (blk_cell (HM.out.box 0 rfl) 0).trans rfl; have hfz16_0 := blk_frozen (HM.out.box 0 rfl) 0) | ((with_reducible refine gate_store (t := 3) (p := 6) rfl ?_); refine store_event (t := 3) (p := 6) (v := ?vow15_) (w1 := (w14_.setCell ⟨gb3, 0, none⟩ (.int .i64 (wrap64 (ji6_ - 1))))) ?hg ?ho ?hn ?hr ?_; (case ho => rfl); (case hg => rfl); (case hn => rfl); (case hr => first | (go_simp; done) | (go_simp; rfl)); intro w15_ hw; have n_ : Aside0 (MS w w15_ [.box gb3 3 #[.int .i64 (wrap64 (ji6_ - 1))], .box gb2 24 #[.slice none 0 0], .box gb1 24 #[.slice A0_0 l0_0.length c0_0]]) := ⟨by rw [hw]; exact HM.out.setBox 0 rfl _ _ rfl⟩; clear HM hw; have HM := n_; clear n_; have hcz17_0 : w15_.cell? ⟨gb1, 0, none⟩ = some (.slice A0_0 l0_0.length c0_0) := (blk_cell (HM.out.box 2 rfl) 0).trans rfl; have hfz17_0 := blk_frozen (HM.out.box 2 rfl) 0; have fv182 := Aside0.mk (show FnB Try.prog w15_ (.func (.func 63) #[] #[.pointer (some ⟨gb3, 0, none⟩)]) (fun x_ => impl_DualFamily_1.f x_ (wrap64 (ji6_ - 1))) from FnB.mk Try.func63 rfl rfl (fun W_ hW_ x_ r_ hr_ => (show Calls Try.prog 63 #[.int .i64 x_, .pointer (some ⟨gb3, 0, none⟩)] W_ _ from drawn_calls (impl_DualFamily_1.calls x_ _ (wrap64 (ji6_ - 1)) r_ W_ (blk_below (HM.out.box 0 rfl) hW_) hr_))))) | ((with_reducible refine gate_callee (f := 38) rfl ?_); (with_reducible refine gate_dst (N := 22) rfl ?_); refine goesL_ (some 22) rfl rfl Try.func38 (by kernel_rfl) rfl #[.slice A0_0 l0_0.length c0_0, .func (.func 63) #[] #[.pointer (some ⟨gb3, 0, none⟩)]] rfl (by (try simp only [List.map_toArray, List.map_cons, List.map_nil]); first | done | rfl | (simp only [List.length_drop, List.length_take]; rfl)) ?_; (with_reducible refine (slices_ContainsFunc_int_int.calls k _ _ l0_0 _ (fun x_ => impl_DualFamily_1.f x_ (wrap64 (ji6_ - 1))) true _ ?sd0 ?sd1 ?sd2 A7_.out).mono ?_); (case sd0 => exact (Kd.C_below HR0_0.out HM.out.below)); (case sd1 => exact HC0_0.out); (case sd2 => exact fv182.out); rintro e_ w18_ ⟨rfl, hb⟩; refine ⟨_, rfl, ?_⟩; have n_ := Aside0.mk (HM.out.step hb); clear HM; have HM := n_; clear n_; clear hb; have hcz20_0 : w18_.cell? ⟨gb2, 0, none⟩ = some (.slice none 0 0) := (blk_cell (HM.out.box 1 rfl) 0).trans rfl; have hfz20_0 := blk_frozen (HM.out.box 1 rfl) 0) | ((with_reducible refine gate_store (t := 24) (p := 4) rfl ?_); refine store_event (t := 24) (p := 4) (v := ?vow19_) (w1 := (w18_.setCell ⟨gb2, 0, none⟩ (.slice none 0 0))) ?hg ?ho ?hn ?hr ?_; (case ho => rfl); (case hg => rfl); (case hn => rfl); (case hr => first | (go_simp; done) | (go_simp; rfl)); intro w19_ hw; have n_ : Aside0 (MS w w19_ [.box gb3 3 #[.int .i64 (wrap64 (ji6_ - 1))], .box gb2 24 #[.slice none 0 0], .box gb1 24 #[.slice A0_0 l0_0.length c0_0]]) := ⟨by rw [hw]; exact HM.out.setBox 1 rfl _ _ rfl⟩; clear HM hw; have HM := n_; clear n_))
          refine bodyPost_ret (results_ct rfl _ _ gb2 24 #[.slice none 0 0] (0, 0) _ rfl (HM.out.box 1 rfl) Try.underlying24 rfl (by kernel_rfl)) rfl ?_
          exact ⟨_, by first | rfl | (simp; done) | (simp only [← hji6_] <;> (first | rfl | simp)) | (simp [*]; done), Kd.R_nil _ _ _ _ _, HM.out.below⟩
        · replace c8_ := Bool.eq_false_iff.mpr c8_
          subst c8_
          have H1 : ((impl_familyOf.f k (fun x_ => impl_DualFamily_2.f k x_ l0_0 (wrap64 (ji6_ - 1)))).bind fun t185 => (some (t185, true))) = some (r1, r2) := by rw [if_neg (show ¬ (false = true) by decide)] at H; exact H
          clear H
          have H := H1
          clear H1
          replace H := Option.bind_eq_some_iff.mp H
          obtain ⟨t185, A21_0, H⟩ := H
          replace H : (some (t185, true)) = some (r1, r2) := H
          have A21_ := Aside0.mk A21_0
          clear A21_0
          simp only [Option.some.injEq, Prod.mk.injEq] at H
          obtain ⟨rfl, rfl⟩ := H
          go_enter Try.func34, Try.ntmps34
          go_wp2_with (first | ((with_reducible refine gate_dst (N := 2) rfl ?_); refine box_event ?hg (N := 2) ?hd (cs := #[.slice A0_0 l0_0.length c0_0]) (t := 24) ?hr ?_; (case hd => rfl); (case hg => rfl); (case hr => first | (go_simp; done) | (go_simp; rfl)); intro gb1 hg w22_ hbox hb; have n_ := Aside0.mk (HM.out.addBox hb hbox hg); clear HM; have HM := n_; clear n_; clear hb hbox hg) | ((with_reducible refine gate_dst (N := 4) rfl ?_); refine box_event ?hg (N := 4) ?hd (cs := #[.slice none 0 0]) (t := 24) ?hr ?_; (case hd => rfl); (case hg => rfl); (case hr => first | (go_simp; done) | (go_simp; rfl)); intro gb2 hg w23_ hbox hb; have n_ := Aside0.mk (HM.out.addBox hb hbox hg); clear HM; have HM := n_; clear n_; clear hb hbox hg; have hcz24_0 : w23_.cell? ⟨gb1, 0, none⟩ = some (.slice A0_0 l0_0.length c0_0) := (blk_cell (HM.out.box 1 rfl) 0).trans rfl; have hfz24_0 := blk_frozen (HM.out.box 1 rfl) 0) | ((with_reducible refine gate_callee (f := 52) rfl ?_); (with_reducible refine gate_dst (N := 8) rfl ?_); refine goesL_ (some 8) rfl rfl Try.func52 (by kernel_rfl) rfl #[.agg #[.slice A0_0 l0_0.length c0_0]] rfl (by (try simp only [List.map_toArray, List.map_cons, List.map_nil]); first | done | rfl | (simp only [List.length_drop, List.length_take]; rfl)) ?_; (with_reducible refine (impl_isFamily.calls k _ _ l0_0 true _ ?sd0 ?sd1 A1_.out).mono ?_); (case sd0 => exact (Kd.C_below HR0_0.out HM.out.below)); (case sd1 => exact HC0_0.out); rintro e_ w25_ ⟨rfl, hb⟩; refine ⟨_, rfl, ?_⟩; have n_ := Aside0.mk (HM.out.step hb); clear HM; have HM := n_; clear n_; clear hb) | (go_at_call 46; (refine calls_of_args (args' := #[.int .i64 a1]) (by first | done | rfl) ?_); (with_reducible refine (impl_isFew.calls a1 true _  A3_.out).mono ?_); rintro e_ w26_ ⟨rfl, hd_⟩; have hb := hd_.below; clear hd_; have n_ := Aside0.mk (HM.out.step hb); clear HM; have HM := n_; clear n_; clear hb) | ((with_reducible refine gate_dst (N := 6) rfl ?_); refine box_event ?hg (N := 6) ?hd (cs := #[.int .i64 0]) (t := 3) ?hr ?_; (case hd => rfl); (case hg => rfl); (case hr => first | (go_simp; done) | (go_simp; rfl)); intro gb3 hg w27_ hbox hb; have n_ := Aside0.mk (HM.out.addBox hb hbox hg); clear HM; have HM := n_; clear n_; clear hb hbox hg; have hcz29_0 : w27_.cell? ⟨gb3, 0, none⟩ = some (.int .i64 0) := (blk_cell (HM.out.box 0 rfl) 0).trans rfl; have hfz29_0 := blk_frozen (HM.out.box 0 rfl) 0) | ((with_reducible refine gate_store (t := 3) (p := 6) rfl ?_); refine store_event (t := 3) (p := 6) (v := ?vow28_) (w1 := (w27_.setCell ⟨gb3, 0, none⟩ (.int .i64 (wrap64 (ji6_ - 1))))) ?hg ?ho ?hn ?hr ?_; (case ho => rfl); (case hg => rfl); (case hn => rfl); (case hr => first | (go_simp; done) | (go_simp; rfl)); intro w28_ hw; have n_ : Aside0 (MS w w28_ [.box gb3 3 #[.int .i64 (wrap64 (ji6_ - 1))], .box gb2 24 #[.slice none 0 0], .box gb1 24 #[.slice A0_0 l0_0.length c0_0]]) := ⟨by rw [hw]; exact HM.out.setBox 0 rfl _ _ rfl⟩; clear HM hw; have HM := n_; clear n_; have hcz30_0 : w28_.cell? ⟨gb1, 0, none⟩ = some (.slice A0_0 l0_0.length c0_0) := (blk_cell (HM.out.box 2 rfl) 0).trans rfl; have hfz30_0 := blk_frozen (HM.out.box 2 rfl) 0; have fv182 := Aside0.mk (show FnB Try.prog w28_ (.func (.func 63) #[] #[.pointer (some ⟨gb3, 0, none⟩)]) (fun x_ => impl_DualFamily_1.f x_ (wrap64 (ji6_ - 1))) from FnB.mk Try.func63 rfl rfl (fun W_ hW_ x_ r_ hr_ => (show Calls Try.prog 63 #[.int .i64 x_, .pointer (some ⟨gb3, 0, none⟩)] W_ _ from drawn_calls (impl_DualFamily_1.calls x_ _ (wrap64 (ji6_ - 1)) r_ W_ (blk_below (HM.out.box 0 rfl) hW_) hr_))))) | ((with_reducible refine gate_callee (f := 38) rfl ?_); (with_reducible refine gate_dst (N := 22) rfl ?_); refine goesL_ (some 22) rfl rfl Try.func38 (by kernel_rfl) rfl #[.slice A0_0 l0_0.length c0_0, .func (.func 63) #[] #[.pointer (some ⟨gb3, 0, none⟩)]] rfl (by (try simp only [List.map_toArray, List.map_cons, List.map_nil]); first | done | rfl | (simp only [List.length_drop, List.length_take]; rfl)) ?_; (with_reducible refine (slices_ContainsFunc_int_int.calls k _ _ l0_0 _ (fun x_ => impl_DualFamily_1.f x_ (wrap64 (ji6_ - 1))) false _ ?sd0 ?sd1 ?sd2 A7_.out).mono ?_); (case sd0 => exact (Kd.C_below HR0_0.out HM.out.below)); (case sd1 => exact HC0_0.out); (case sd2 => exact fv182.out); rintro e_ w31_ ⟨rfl, hb⟩; refine ⟨_, rfl, ?_⟩; have n_ := Aside0.mk (HM.out.step hb); clear HM; have HM := n_; clear n_; clear hb; have fv184 := Aside0.mk (show FnB Try.prog w31_ (.func (.func 64) #[] #[.pointer (some ⟨gb1, 0, none⟩), .pointer (some ⟨gb3, 0, none⟩)]) (fun x_ => impl_DualFamily_2.f k x_ l0_0 (wrap64 (ji6_ - 1))) from FnB.mk Try.func64 rfl rfl (fun W_ hW_ x_ r_ hr_ => (show Calls Try.prog 64 #[.int .i64 x_, .pointer (some ⟨gb1, 0, none⟩), .pointer (some ⟨gb3, 0, none⟩)] W_ _ from impl_DualFamily_2.calls k x_ _ _ _ l0_0 _ (wrap64 (ji6_ - 1)) r_ W_ (Kd.C_below HR0_0.out (below_step HM.out.below hW_)) HC0_0.out (blk_below (HM.out.box 2 rfl) hW_) (blk_below (HM.out.box 0 rfl) hW_) hr_)))) | ((with_reducible refine gate_callee (f := 41) rfl ?_); (with_reducible refine gate_dst (N := 25) rfl ?_); refine goesL_ (some 25) rfl rfl Try.func41 (by kernel_rfl) rfl #[.func (.func 64) #[] #[.pointer (some ⟨gb1, 0, none⟩), .pointer (some ⟨gb3, 0, none⟩)]] rfl (by (try simp only [List.map_toArray, List.map_cons, List.map_nil]); first | done | rfl | (simp only [List.length_drop, List.length_take]; rfl)) ?_; (with_reducible refine (impl_familyOf.calls k _ (fun x_ => impl_DualFamily_2.f k x_ l0_0 (wrap64 (ji6_ - 1))) t185 _ ?sd0 A21_.out).mono ?_); (case sd0 => exact fv184.out); rintro e_ w32_ ⟨vv0_, rfl, ho0_, hb⟩; refine ⟨_, rfl, ?_⟩; obtain ⟨Ao4_0, co4_0, ev_⟩ := Kd.R_slice ho0_; subst ev_; have n_ := Aside0.mk (HM.out.addR hb ho0_); clear HM; have HM := n_; clear n_; clear hb ho0_; have hcz34_0 : w32_.cell? ⟨gb2, 0, none⟩ = some (.slice none 0 0) := (blk_cell (HM.out.box 2 rfl) 0).trans rfl; have hfz34_0 := blk_frozen (HM.out.box 2 rfl) 0) | ((with_reducible refine gate_store (t := 24) (p := 4) rfl ?_); refine store_event (t := 24) (p := 4) (v := ?vow33_) (w1 := (w32_.setCell ⟨gb2, 0, none⟩ (.slice Ao4_0 t185.length co4_0))) ?hg ?ho ?hn ?hr ?_; (case ho => rfl); (case hg => rfl); (case hn => rfl); (case hr => first | (go_simp; done) | (go_simp; rfl)); intro w33_ hw; have n_ : Aside0 (MS w w33_ [.row 3 (.slice Ao4_0 t185.length co4_0) (encs (Value.int .i64) t185), .box gb3 3 #[.int .i64 (wrap64 (ji6_ - 1))], .box gb2 24 #[.slice Ao4_0 t185.length co4_0], .box gb1 24 #[.slice A0_0 l0_0.length c0_0]]) := ⟨by rw [hw]; exact HM.out.setBox 2 rfl _ _ rfl⟩; clear HM hw; have HM := n_; clear n_))
          refine bodyPost_ret (results_ct rfl _ _ gb2 24 #[.slice Ao4_0 t185.length co4_0] (0, 0) _ rfl (HM.out.box 2 rfl) Try.underlying24 rfl (by kernel_rfl)) rfl ?_
          exact ⟨_, by first | rfl | (simp; done) | (simp only [← hji6_] <;> (first | rfl | simp)) | (simp [*]; done), HM.out.R 0 rfl, HM.out.below⟩
      · rw [if_neg c5_] at H
        have c5_b0 : decide (0 ≤ a1) = false := decide_eq_false c5_
        clear c5_
        exact absurd H (by simp)
    · replace c4_ := Bool.eq_false_iff.mpr c4_
      subst c4_
      have H1 : (some ([], false)) = some (r1, r2) := by rw [if_neg (show ¬ (false = true) by decide)] at H; exact H
      clear H
      have H := H1
      clear H1
      simp only [Option.some.injEq, Prod.mk.injEq] at H
      obtain ⟨rfl, rfl⟩ := H
      go_enter Try.func34, Try.ntmps34
      go_wp2_with (first | ((with_reducible refine gate_dst (N := 2) rfl ?_); refine box_event ?hg (N := 2) ?hd (cs := #[.slice A0_0 l0_0.length c0_0]) (t := 24) ?hr ?_; (case hd => rfl); (case hg => rfl); (case hr => first | (go_simp; done) | (go_simp; rfl)); intro gb1 hg w35_ hbox hb; have n_ := Aside0.mk (HM.out.addBox hb hbox hg); clear HM; have HM := n_; clear n_; clear hb hbox hg) | ((with_reducible refine gate_dst (N := 4) rfl ?_); refine box_event ?hg (N := 4) ?hd (cs := #[.slice none 0 0]) (t := 24) ?hr ?_; (case hd => rfl); (case hg => rfl); (case hr => first | (go_simp; done) | (go_simp; rfl)); intro gb2 hg w36_ hbox hb; have n_ := Aside0.mk (HM.out.addBox hb hbox hg); clear HM; have HM := n_; clear n_; clear hb hbox hg; have hcz37_0 : w36_.cell? ⟨gb1, 0, none⟩ = some (.slice A0_0 l0_0.length c0_0) := (blk_cell (HM.out.box 1 rfl) 0).trans rfl; have hfz37_0 := blk_frozen (HM.out.box 1 rfl) 0) | ((with_reducible refine gate_callee (f := 52) rfl ?_); (with_reducible refine gate_dst (N := 8) rfl ?_); refine goesL_ (some 8) rfl rfl Try.func52 (by kernel_rfl) rfl #[.agg #[.slice A0_0 l0_0.length c0_0]] rfl (by (try simp only [List.map_toArray, List.map_cons, List.map_nil]); first | done | rfl | (simp only [List.length_drop, List.length_take]; rfl)) ?_; (with_reducible refine (impl_isFamily.calls k _ _ l0_0 true _ ?sd0 ?sd1 A1_.out).mono ?_); (case sd0 => exact (Kd.C_below HR0_0.out HM.out.below)); (case sd1 => exact HC0_0.out); rintro e_ w38_ ⟨rfl, hb⟩; refine ⟨_, rfl, ?_⟩; have n_ := Aside0.mk (HM.out.step hb); clear HM; have HM := n_; clear n_; clear hb) | (go_at_call 46; (refine calls_of_args (args' := #[.int .i64 a1]) (by first | done | rfl) ?_); (with_reducible refine (impl_isFew.calls a1 false _  A3_.out).mono ?_); rintro e_ w39_ ⟨rfl, hd_⟩; have hb := hd_.below; clear hd_; have n_ := Aside0.mk (HM.out.step hb); clear HM; have HM := n_; clear n_; clear hb; have hcz41_0 : w39_.cell? ⟨gb2, 0, none⟩ = some (.slice none 0 0) := (blk_cell (HM.out.box 0 rfl) 0).trans rfl; have hfz41_0 := blk_frozen (HM.out.box 0 rfl) 0) | ((with_reducible refine gate_store (t := 24) (p := 4) rfl ?_); refine store_event (t := 24) (p := 4) (v := ?vow40_) (w1 := (w39_.setCell ⟨gb2, 0, none⟩ (.slice none 0 0))) ?hg ?ho ?hn ?hr ?_; (case ho => rfl); (case hg => rfl); (case hn => rfl); (case hr => first | (go_simp; done) | (go_simp; rfl)); intro w40_ hw; have n_ : Aside0 (MS w w40_ [.box gb2 24 #[.slice none 0 0], .box gb1 24 #[.slice A0_0 l0_0.length c0_0]]) := ⟨by rw [hw]; exact HM.out.setBox 0 rfl _ _ rfl⟩; clear HM hw; have HM := n_; clear n_))
      refine bodyPost_ret (results_ct rfl _ _ gb2 24 #[.slice none 0 0] (0, 0) _ rfl (HM.out.box 0 rfl) Try.underlying24 rfl (by kernel_rfl)) rfl ?_
      exact ⟨_, by first | rfl | (simp; done) | (simp [*]; done), Kd.R_nil _ _ _ _ _, HM.out.below⟩
  · replace c2_ := Bool.eq_false_iff.mpr c2_
    subst c2_
    have H1 : (some ([], false)) = some (r1, r2) := by rw [if_neg (show ¬ (false = true) by decide)] at H; exact H
    clear H
    have H := H1
    clear H1
    simp only [Option.some.injEq, Prod.mk.injEq] at H
    obtain ⟨rfl, rfl⟩ := H
    go_enter Try.func34, Try.ntmps34
    go_wp2_with (first | ((with_reducible refine gate_dst (N := 2) rfl ?_); refine box_event ?hg (N := 2) ?hd (cs := #[.slice A0_0 l0_0.length c0_0]) (t := 24) ?hr ?_; (case hd => rfl); (case hg => rfl); (case hr => first | (go_simp; done) | (go_simp; rfl)); intro gb1 hg w42_ hbox hb; have n_ := Aside0.mk (HM.out.addBox hb hbox hg); clear HM; have HM := n_; clear n_; clear hb hbox hg) | ((with_reducible refine gate_dst (N := 4) rfl ?_); refine box_event ?hg (N := 4) ?hd (cs := #[.slice none 0 0]) (t := 24) ?hr ?_; (case hd => rfl); (case hg => rfl); (case hr => first | (go_simp; done) | (go_simp; rfl)); intro gb2 hg w43_ hbox hb; have n_ := Aside0.mk (HM.out.addBox hb hbox hg); clear HM; have HM := n_; clear n_; clear hb hbox hg; have hcz44_0 : w43_.cell? ⟨gb1, 0, none⟩ = some (.slice A0_0 l0_0.length c0_0) := (blk_cell (HM.out.box 1 rfl) 0).trans rfl; have hfz44_0 := blk_frozen (HM.out.box 1 rfl) 0) | ((with_reducible refine gate_callee (f := 52) rfl ?_); (with_reducible refine gate_dst (N := 8) rfl ?_); refine goesL_ (some 8) rfl rfl Try.func52 (by kernel_rfl) rfl #[.agg #[.slice A0_0 l0_0.length c0_0]] rfl (by (try simp only [List.map_toArray, List.map_cons, List.map_nil]); first | done | rfl | (simp only [List.length_drop, List.length_take]; rfl)) ?_; (with_reducible refine (impl_isFamily.calls k _ _ l0_0 false _ ?sd0 ?sd1 A1_.out).mono ?_); (case sd0 => exact (Kd.C_below HR0_0.out HM.out.below)); (case sd1 => exact HC0_0.out); rintro e_ w45_ ⟨rfl, hb⟩; refine ⟨_, rfl, ?_⟩; have n_ := Aside0.mk (HM.out.step hb); clear HM; have HM := n_; clear n_; clear hb; have hcz47_0 : w45_.cell? ⟨gb2, 0, none⟩ = some (.slice none 0 0) := (blk_cell (HM.out.box 0 rfl) 0).trans rfl; have hfz47_0 := blk_frozen (HM.out.box 0 rfl) 0) | ((with_reducible refine gate_store (t := 24) (p := 4) rfl ?_); refine store_event (t := 24) (p := 4) (v := ?vow46_) (w1 := (w45_.setCell ⟨gb2, 0, none⟩ (.slice none 0 0))) ?hg ?ho ?hn ?hr ?_; (case ho => rfl); (case hg => rfl); (case hn => rfl); (case hr => first | (go_simp; done) | (go_simp; rfl)); intro w46_ hw; have n_ : Aside0 (MS w w46_ [.box gb2 24 #[.slice none 0 0], .box gb1 24 #[.slice A0_0 l0_0.length c0_0]]) := ⟨by rw [hw]; exact HM.out.setBox 0 rfl _ _ rfl⟩; clear HM hw; have HM := n_; clear n_))
    refine bodyPost_ret (results_ct rfl _ _ gb2 24 #[.slice none 0 0] (0, 0) _ rfl (HM.out.box 0 rfl) Try.underlying24 rfl (by kernel_rfl)) rfl ?_
    exact ⟨_, by first | rfl | (simp; done) | (simp [*]; done), Kd.R_nil _ _ _ _ _, HM.out.below⟩

end Go.Proofs.Ytncdgimmalifjaa.Q
