-- Written by a program of this session's own (wip/wgen.py): what functions of the program compute, and that they do.
import Derived.Below
import Derived.Deep.Draws
import Derived.Deep.AppendLies
import Derived.Maps.AppendAt
import Derived.OwnWalk
import Derived.Laws.BytesArg
import Derived.Laws.MakeOwn
import Derived.Laws.OwnMore
import Derived.Deep.OwnRows
import Derived.Tactics
import Derived.Lib.ConvBytes
import Derived.Laws.Slices
import Derived.WalkKit
import Derived.KernelRfl
import Derived.RowKit3
import Derived.Deep.LoopGhost
import Derived.Deep.QuietTactic
import Derived.BigQuiet
import Derived.WideLaws
import Derived.Deep.DeepCutAuto
import Derived.Deep.CutBlock
import Derived.Deep.RegionHeld3
import Derived.Laws.Rows
import Derived.Lib.AppendStr
import Derived.ArgAppend
import Derived.Laws.IdiomCopy
import Derived.OrdersHeld
import Derived.Laws.BitsLemmas
import Derived.RowKit
import Derived.Lib.SliceRun
import Derived.Test.YtblhjcdfccggfaaHM
import Derived.Test.YtblhjcdfccggfaaRG
import Derived.Test.YtblhjcdfccggfaaProg
import Derived.Test.YtblhjcdfccggfaaK1
import Derived.Test.YtblhjcdfccggfaaK2
import Derived.Test.YtblhjcdfccggfaaKL1
import Derived.Test.YtblhjcdfccggfaaQI
import Derived.Test.YtblhjcdfccggfaaQ8
import Derived.Test.YtblhjcdfccggfaaQ9
import Derived.Test.YtblhjcdfccggfaaQA
import Derived.Test.YtblhjcdfccggfaaCO
import Derived.Test.YtblhjcdfccggfaaQL
namespace Go.Proofs.Ytblhjcdfccggfaa.Q
open Go.RowKit Go.Proofs.YtblhjcdfccggfaaW.PrintWords Go.Proofs.YtblhjcdfccggfaaW.PrintLast Go.Proofs.YtblhjcdfccggfaaW.PrintMore Go.Proofs.YtblhjcdfccggfaaM Go.Proofs.Ytblhjcdfccggfaa.K Go.Proofs.Ytblhjcdfccggfaa.KL
attribute [local go_sem] max2_int min2_int max_two min_two max_three min_three max_four min_four
set_option linter.unusedVariables false
set_option linter.unusedSimpArgs false

theorem info3 : (Try.prog.info? 3).map (fun i => (i.zero, i.size, i.bytes)) = some (some (.int .i64 0), 1, 8) := by kernel_rfl
/-! ### impl_coefficients_first: function 45 -/
mutual
def impl_coefficients_first.l0 : Nat → (List (List Int)) → (Int) → Option (List Int)
  | 0, _, _ => none
  | k + 1, x0, x3 => if x3 ≤ 3 then ((impl_lists.f k x3).bind fun t101 => (impl_coefficients_first.l1 k x0 x3 t101 (t101.length : Int) 0)) else (some [])
def impl_coefficients_first.l1 : Nat → (List (List Int)) → (Int) → (List (List Int)) → (Int) → (Int) → Option (List Int)
  | 0, _, _, _, _, _ => none
  | k + 1, x0, x3, x11, x12, x13 => if x13 < x12 then (if 0 ≤ x13 then (if x13 < (x11.length : Int) then ((impl_coefficients_of.f k x0 (rdOf [] x11 x13)).bind fun t103 => (if t103 = 0 then (impl_coefficients_first.l1 k x0 x3 x11 x12 (wrap64 (x13 + 1))) else (if (rdOf [] x11 x13).length = 0 then (none) else (some (rdOf [] x11 x13))))) else (none)) else (none)) else (impl_coefficients_first.l0 k x0 (wrap64 (x3 + 1)))
end
def impl_coefficients_first.f (k : Nat) (l0 : List (List Int)) : Option (List Int) := impl_coefficients_first.l0 k l0 1
set_option maxHeartbeats 8000000 in
set_option maxRecDepth 100000 in
theorem impl_coefficients_first.calls (k : Nat) (gp0 : Nat) (l0 : List (List Int)) (r : List Int) (w : World) (hr0 : Kd.C (Kd.slice 3 (Kd.int .i64)) w (some ⟨gp0, 0, none⟩) 4 l0) (hc0 : l0.length = 4) (h : impl_coefficients_first.f k l0 = some r) :
    Calls Try.prog 45 #[.pointer (some ⟨gp0, 0, none⟩)] w fun e w' => ∃ v0_ : Value, e = .returned (v0_) ∧ RoN (Kd.int .i64) w w' v0_ r ∧ Below w.heap.size w w' := by
  have HR0 := Aside0.mk hr0
  have HC0 := Aside0.mk hc0
  clear hr0 hc0
  have hu22 := Try.underlying22
  have hu55 := Try.underlying55
  have HM := Aside0.mk (MS.start w)
  have H : (impl_coefficients_first.l0 k l0 1) = some r := h
  clear h
  have H' := Aside0.mk H
  clear H
  go_enter Try.func45, Try.ntmps45
  go_wp2
  go_loopg [3] k (fun kq v3 w' => ∃ (x3_1 : Int), v3 = .int .i64 x3_1 ∧ Aside0 (impl_coefficients_first.l0 kq l0 x3_1 = some r) ∧ Aside0 (kq ≤ k) ∧ Aside0 (MS w w' []))
  case atStart => exact ⟨(1), (by first | rfl | (simp; done) | (simp only [i64_w]; done) | (simp [i64_w]; done) | (simp [*]; done)), H', ⟨Nat.le_refl _⟩, HM⟩
  case round =>
    clear H'
    clear HM
    obtain ⟨x3_1, rfl, HA, HK2_, HM⟩ := hrel
    cases gk with
    | zero => exact absurd HA.out (by simp [impl_coefficients_first.l0])
    | succ k3_ =>
      have H := HA.out
      clear HA
      simp only [impl_coefficients_first.l0] at H
      by_cases c4_ : x3_1 ≤ 3
      · rw [if_pos c4_] at H
        have c4_b0 : decide (x3_1 ≤ 3) = true := decide_eq_true c4_
        clear c4_
        replace H := Option.bind_eq_some_iff.mp H
        obtain ⟨t101, A5_0, H⟩ := H
        replace H : (impl_coefficients_first.l1 k3_ l0 x3_1 t101 (t101.length : Int) 0) = some r := H
        have A5_ := Aside0.mk A5_0
        clear A5_0
        have H' := Aside0.mk H
        clear H
        go_wp2_with (first | ((with_reducible refine gate_callee (f := 52) rfl ?_); (with_reducible refine gate_dst (N := 11) rfl ?_); refine goesL_ (some 11) rfl rfl Try.func52 (by kernel_rfl) rfl #[.int .i64 x3_1] rfl (by (try simp only [List.map_toArray, List.map_cons, List.map_nil]); first | done | rfl | (simp only [List.length_drop, List.length_take]; rfl)) ?_; (with_reducible refine (impl_lists.calls k3_ x3_1 t101 _  A5_.out).mono ?_); rintro e_ w6_ ⟨vv0_, rfl, ho0_, hb⟩; refine ⟨_, rfl, ?_⟩; obtain ⟨Ao1_0, co1_0, ev_, hl_, hF_⟩ := RoS.ofN (id ho0_); subst ev_; obtain ⟨ow1, hF2_, hM_⟩ := HM.out.addRo hb hF_; have HRh1 := Aside0.mk hF2_; have HCh1 := Aside0.mk hl_; have n_ := Aside0.mk hM_; clear HM hF_ hF2_ hl_ hM_; have HM := n_; clear n_; clear hb ho0_))
        go_loopg [13] k3_ (fun kq v13 w' => ∃ (x13_7 : Int), v13 = .int .i64 x13_7 ∧ Aside0 (impl_coefficients_first.l1 kq l0 x3_1 t101 (t101.length : Int) x13_7 = some r) ∧ Aside0 (kq ≤ k3_) ∧ Aside0 (MS w w' [.any ow1 (Agree ow1 w6_)]))
        case atStart => exact ⟨(0), (by first | rfl | (simp; done) | (simp only [i64_w]; done) | (simp [i64_w]; done) | (simp [*]; done)), H', ⟨Nat.le_refl _⟩, HM⟩
        case round =>
          clear H'
          clear HM
          obtain ⟨x13_7, rfl, HA, HK8_, HM⟩ := hrel
          cases gk with
          | zero => exact absurd HA.out (by simp [impl_coefficients_first.l1])
          | succ k9_ =>
            have H := HA.out
            clear HA
            simp only [impl_coefficients_first.l1] at H
            by_cases c10_ : x13_7 < (t101.length : Int)
            · rw [if_pos c10_] at H
              have c10_b0 : decide (x13_7 < (t101.length : Int)) = true := decide_eq_true c10_
              clear c10_
              by_cases c11_ : 0 ≤ x13_7
              · rw [if_pos c11_] at H
                have c11_b0 : decide (0 ≤ x13_7) = true := decide_eq_true c11_
                clear c11_
                by_cases c12_ : x13_7 < (t101.length : Int)
                · rw [if_pos c12_] at H
                  have c12_b0 : decide (x13_7 < (t101.length : Int)) = true := decide_eq_true c12_
                  clear c12_
                  replace H := Option.bind_eq_some_iff.mp H
                  obtain ⟨t103, A13_0, H⟩ := H
                  replace H : (if t103 = 0 then (impl_coefficients_first.l1 k9_ l0 x3_1 t101 (t101.length : Int) (wrap64 (x13_7 + 1))) else (if (rdOf [] t101 x13_7).length = 0 then (none) else (some (rdOf [] t101 x13_7)))) = some r := H
                  have A13_ := Aside0.mk A13_0
                  clear A13_0
                  by_cases c14_ : t103 = 0
                  · rw [if_pos c14_] at H
                    have c14_b0 : (t103 == 0) = true := beq_iff_eq.mpr c14_
                    have c14_b1 : (t103 != 0) = false := bne_eq_false_iff_eq.mpr c14_
                    clear c14_
                    have H' := Aside0.mk H
                    clear H
                    have p102 : 0 ≤ (x13_7 : Int) := of_decide_eq_true (by first | (with_reducible assumption) | assumption)
                    have q102 : (x13_7 : Int) < (t101.length : Int) := of_decide_eq_true (by first | (with_reducible assumption) | assumption)
                    obtain ⟨ad102, Ae102, ce102, e102, hx102, hle102, hC102, hy102⟩ := held_elem HRh1.out (HM.out.any 0 rfl) x13_7 p102 q102
                    cases e102
                    have HY102 := Aside0.mk hy102
                    clear hy102
                    have HRe102 := Aside0.mk hC102
                    have HCe102 := Aside0.mk hle102
                    clear hC102 hle102
                    replace p102 := eq_true p102
                    replace q102 := eq_true q102
                    go_wp2_with (first | ((with_reducible refine gate_callee (f := 42) rfl ?_); (with_reducible refine gate_dst (N := 19) rfl ?_); refine goesL_ (some 19) rfl rfl Try.func42 (by kernel_rfl) rfl #[.pointer (some ⟨gp0, 0, none⟩), .slice Ae102 (rdOf [] t101 x13_7).length ce102] rfl (by (try simp only [List.map_toArray, List.map_cons, List.map_nil]); first | done | rfl | (simp only [List.length_drop, List.length_take]; rfl)) ?_; (with_reducible refine (impl_coefficients_of.calls k9_ _ l0 _ _ (rdOf [] t101 x13_7) t103 _ ?sd0 ?sd1 ?sd2 ?sd3 A13_.out).mono ?_); (case sd0 => exact (Kd.C_below HR0.out HM.out.below)); (case sd1 => exact HC0.out); (case sd2 => exact (HM.out.heldC 0 rfl HRe102.out)); (case sd3 => exact HCe102.out); rintro e_ w15_ ⟨rfl, hd_⟩; refine ⟨_, rfl, ?_⟩; have hb := hd_.below; clear hd_; have n_ := Aside0.mk (HM.out.step hb); clear HM; have HM := n_; clear n_; clear hb))
                    go_roundg k9_
                    case measure => have hHK2__ := HK2_.out; have hHK8__ := HK8_.out; omega
                    case rel => exact ⟨(wrap64 (x13_7 + 1)), (by first | rfl | (simp; done) | (simp only [i64_w]; done) | (simp [i64_w]; done) | (simp [*]; done)), H', ⟨by have hHK2__ := HK2_.out; have hHK8__ := HK8_.out; omega⟩, HM⟩
                  · rw [if_neg c14_] at H
                    have c14_b0 : (t103 == 0) = false := beq_eq_false_iff_ne.mpr c14_
                    have c14_b1 : (t103 != 0) = true := bne_iff_ne.mpr c14_
                    clear c14_
                    by_cases c16_ : (rdOf [] t101 x13_7).length = 0
                    · rw [if_pos c16_] at H
                      clear c16_
                      exact absurd H (by simp)
                    · rw [if_neg c16_] at H
                      have NE_ := Aside0.mk c16_
                      clear c16_
                      obtain rfl := Option.some.inj H
                      have p102 : 0 ≤ (x13_7 : Int) := of_decide_eq_true (by first | (with_reducible assumption) | assumption)
                      have q102 : (x13_7 : Int) < (t101.length : Int) := of_decide_eq_true (by first | (with_reducible assumption) | assumption)
                      obtain ⟨ad102, Ae102, ce102, e102, hx102, hle102, hC102, hy102⟩ := held_elem HRh1.out (HM.out.any 0 rfl) x13_7 p102 q102
                      cases e102
                      have HY102 := Aside0.mk hy102
                      clear hy102
                      have HRe102 := Aside0.mk hC102
                      have HCe102 := Aside0.mk hle102
                      clear hC102 hle102
                      replace p102 := eq_true p102
                      replace q102 := eq_true q102
                      go_wp2_with (first | ((with_reducible refine gate_callee (f := 42) rfl ?_); (with_reducible refine gate_dst (N := 19) rfl ?_); refine goesL_ (some 19) rfl rfl Try.func42 (by kernel_rfl) rfl #[.pointer (some ⟨gp0, 0, none⟩), .slice Ae102 (rdOf [] t101 x13_7).length ce102] rfl (by (try simp only [List.map_toArray, List.map_cons, List.map_nil]); first | done | rfl | (simp only [List.length_drop, List.length_take]; rfl)) ?_; (with_reducible refine (impl_coefficients_of.calls k9_ _ l0 _ _ (rdOf [] t101 x13_7) t103 _ ?sd0 ?sd1 ?sd2 ?sd3 A13_.out).mono ?_); (case sd0 => exact (Kd.C_below HR0.out HM.out.below)); (case sd1 => exact HC0.out); (case sd2 => exact (HM.out.heldC 0 rfl HRe102.out)); (case sd3 => exact HCe102.out); rintro e_ w17_ ⟨rfl, hd_⟩; refine ⟨_, rfl, ?_⟩; have hb := hd_.below; clear hd_; have n_ := Aside0.mk (HM.out.step hb); clear HM; have HM := n_; clear n_; clear hb))
                      go_ret
                      exact ⟨_, by first | rfl | (simp; done) | (simp only [i64_w]; done) | (simp [i64_w]; done) | (simp [*]; done), (RoN.of HCe102.out NE_.out (HM.out.retF 0 rfl HRe102.out)), HM.out.below⟩
                · rw [if_neg c12_] at H
                  have c12_b0 : decide (x13_7 < (t101.length : Int)) = false := decide_eq_false c12_
                  clear c12_
                  exact absurd H (by simp)
              · rw [if_neg c11_] at H
                have c11_b0 : decide (0 ≤ x13_7) = false := decide_eq_false c11_
                clear c11_
                exact absurd H (by simp)
            · rw [if_neg c10_] at H
              have c10_b0 : decide (x13_7 < (t101.length : Int)) = false := decide_eq_false c10_
              clear c10_
              have H' := Aside0.mk H
              clear H
              go_wp2
              have n_ := Aside0.mk (show MS w wr [] from HM.out.drop 0)
              clear HM
              have HM := n_
              clear n_
              go_roundg k9_
              case measure => have hHK2__ := HK2_.out; have hHK8__ := HK8_.out; omega
              case rel => exact ⟨(wrap64 (x3_1 + 1)), (by first | rfl | (simp; done) | (simp only [i64_w]; done) | (simp [i64_w]; done) | (simp [*]; done)), H', ⟨by have hHK2__ := HK2_.out; have hHK8__ := HK8_.out; omega⟩, HM⟩
      · rw [if_neg c4_] at H
        have c4_b0 : decide (x3_1 ≤ 3) = false := decide_eq_false c4_
        clear c4_
        obtain rfl := Option.some.inj H
        go_wp2
        go_ret
        exact ⟨_, by first | rfl | (simp; done) | (simp only [i64_w]; done) | (simp [i64_w]; done) | (simp [*]; done), RoN.nil, HM.out.below⟩

/-! ### spec_l8First: function 44 -/
def spec_l8First.l0 : Nat → (List (List Int)) → (Int) → (List Int) → Option (List Int × Bool)
  | 0, _, _, _ => none
  | k + 1, x6, x7, m1 => if x7 < (x6.length : Int) then (if 0 ≤ x7 then ((spec_l8Get.f m1 (rdOf [] x6 x7)).bind fun t106 => (if t106 = 0 then (spec_l8First.l0 k x6 (wrap64 (x7 + 1)) m1) else (some (rdOf [] x6 x7, true)))) else (none)) else (some ((([] : List Int)), false))
def spec_l8First.f (k : Nat) (l0 : List Int) (a1 : Int) : Option (List Int × Bool) := (spec_l8Lists.f k a1).bind fun t104 => (spec_l8First.l0 k t104 0 l0)
set_option maxHeartbeats 8000000 in
set_option maxRecDepth 100000 in
theorem spec_l8First.calls (k : Nat) (l0 : List Int) (a1 : Int) (r1 : List Int) (r2 : Bool) (w : World) (hl0 : l0.length = 258) (h : spec_l8First.f k l0 a1 = some (r1, r2)) :
    Calls Try.prog 44 #[.agg (ics l0), .int .i64 a1] w fun e w' => ∃ v0_ : Value, e = .returned (.tuple #[v0_, .bool r2]) ∧ RoS (Kd.int .i64) w w' v0_ r1 ∧ Below w.heap.size w w' := by
  have HL0 := Aside0.mk hl0
  clear hl0
  have hu22 := Try.underlying22
  have hu45 := Try.underlying45
  have hu55 := Try.underlying55
  have HM := Aside0.mk (MS.start w)
  have H : ((spec_l8Lists.f k a1).bind fun t104 => (spec_l8First.l0 k t104 0 l0)) = some (r1, r2) := h
  clear h
  replace H := Option.bind_eq_some_iff.mp H
  obtain ⟨t104, A1_0, H⟩ := H
  replace H : (spec_l8First.l0 k t104 0 l0) = some (r1, r2) := H
  have A1_ := Aside0.mk A1_0
  clear A1_0
  have H' := Aside0.mk H
  clear H
  go_enter Try.func44, Try.ntmps44
  go_wp2_with (first | ((with_reducible refine gate_dst (N := 2) rfl ?_); refine box_event ?hg (N := 2) ?hd (cs := (ics l0)) (t := 45) ?hr ?_; (case hd => rfl); (case hg => rfl); (case hr => first | (go_simp; done) | (go_simp; rfl)); intro gb1 hg w2_ hbox hb; have n_ := Aside0.mk (HM.out.addBox hb hbox hg); clear HM; have HM := n_; clear n_; clear hb hbox hg) | ((with_reducible refine gate_callee (f := 43) rfl ?_); (with_reducible refine gate_dst (N := 9) rfl ?_); refine goesL_ (some 9) rfl rfl Try.func43 (by kernel_rfl) rfl #[.int .i64 a1] rfl (by (try simp only [List.map_toArray, List.map_cons, List.map_nil]); first | done | rfl | (simp only [List.length_drop, List.length_take]; rfl)) ?_; (with_reducible refine (spec_l8Lists.calls k a1 t104 _  A1_.out).mono ?_); rintro e_ w3_ ⟨vv0_, rfl, ho0_, hb⟩; refine ⟨_, rfl, ?_⟩; obtain ⟨Ao2_0, co2_0, ev_, hl_, hF_⟩ := RoS.ofN (id ho0_); subst ev_; obtain ⟨ow2, hF2_, hM_⟩ := HM.out.addRo hb hF_; have HRh2 := Aside0.mk hF2_; have HCh2 := Aside0.mk hl_; have n_ := Aside0.mk hM_; clear HM hF_ hF2_ hl_ hM_; have HM := n_; clear n_; clear hb ho0_))
  go_loopg [7] k (fun kq v7 w' => ∃ (x7_4 : Int), v7 = .int .i64 x7_4 ∧ Aside0 (spec_l8First.l0 kq t104 x7_4 l0 = some (r1, r2)) ∧ Aside0 (kq ≤ k) ∧ Aside0 (MS w w' [.any ow2 (Agree ow2 w3_), .box gb1 45 (ics l0)]))
  case atStart => exact ⟨(0), (by first | rfl | (simp; done) | (simp only [i64_w]; done) | (simp [i64_w]; done) | (simp [*]; done)), H', ⟨Nat.le_refl _⟩, HM⟩
  case round =>
    clear H'
    clear HM
    obtain ⟨x7_4, rfl, HA, HK5_, HM⟩ := hrel
    cases gk with
    | zero => exact absurd HA.out (by simp [spec_l8First.l0])
    | succ k6_ =>
      have H := HA.out
      clear HA
      simp only [spec_l8First.l0] at H
      by_cases c7_ : x7_4 < (t104.length : Int)
      · rw [if_pos c7_] at H
        have c7_b0 : decide (x7_4 < (t104.length : Int)) = true := decide_eq_true c7_
        clear c7_
        by_cases c8_ : 0 ≤ x7_4
        · rw [if_pos c8_] at H
          have c8_b0 : decide (0 ≤ x7_4) = true := decide_eq_true c8_
          clear c8_
          replace H := Option.bind_eq_some_iff.mp H
          obtain ⟨t106, A9_0, H⟩ := H
          replace H : (if t106 = 0 then (spec_l8First.l0 k6_ t104 (wrap64 (x7_4 + 1)) l0) else (some (rdOf [] t104 x7_4, true))) = some (r1, r2) := H
          have A9_ := Aside0.mk A9_0
          clear A9_0
          have H' := Aside0.mk H
          clear H
          go_wp2
          have p105 : 0 ≤ (x7_4 : Int) := of_decide_eq_true (by first | (with_reducible assumption) | assumption)
          have q105 : (x7_4 : Int) < (t104.length : Int) := of_decide_eq_true (by first | (with_reducible assumption) | assumption)
          obtain ⟨ad105, Ae105, ce105, e105, hx105, hle105, hC105, hy105⟩ := held_elem HRh2.out (HM.out.any 0 rfl) x7_4 p105 q105
          cases e105
          have HY105 := Aside0.mk hy105
          clear hy105
          have hz105 : Aside0 (∀ W_, Agree ow2 w3_ W_ → W_.cell? (ad105.add (x7_4 : Int).toNat) = some (.slice Ae105 (rdOf [] t104 x7_4).length ce105)) := ⟨fun W_ hA_ => held_cell HRh2.out (HM.out.any 0 rfl) hA_ x7_4 p105 q105 hx105⟩
          have HRe105 := Aside0.mk hC105
          have HCe105 := Aside0.mk hle105
          clear hC105 hle105
          replace p105 := eq_true p105
          replace q105 := eq_true q105
          have n_ := Aside0.mk (HM.out.step (below_drew1 (Below.refl wr.heap.size wr)))
          clear HM
          have HM := n_
          clear n_
          refine start_ (n := 7) (S := fun w' => (w'.heap[gb1]? = some (.cells (ics l0) 45 (0, 0))) ∧ (w'.cell? (ad105.add (x7_4 : Int).toNat) = some (.slice Ae105 (rdOf [] t104 x7_4).length ce105))) (ds := []) #[false, false, false, false, false, false, false] (by kernel_rfl) rfl rfl (⟨(HM.out.box 1 rfl), hz105.out _ (HM.out.any 0 rfl)⟩) (fun hHeld => ?_)
          generalize wr.drew = w10_ at HM hHeld ⊢
          refine take_ (i := 0) (N := some 16) (v := ?_) (a' := ?_) #[true, false, false, false, false, false, false] rfl rfl (by kernel_rfl) (fun _ _ _ h => h) (Or.inl ⟨by rfl, ?_⟩) hHeld ?_ ?_
          rotate_left
          · intro w' s0
            refine load_arr 45 (.tmp 2) ?hoe11_ gb1 ?hxe11_ 45 (ics l0) (0, 0) _ (s0.1) Try.underlying45 rfl (by rw [ics_size, HL0.out]; kernel_rfl)
            (case hoe11_ => rfl)
            (case hxe11_ => rfl)
          rotate_left
          · simp only [Act.put, List.setIfInBounds_toArray, List.set_cons_zero, List.set_cons_succ, i64_w, i32_w]
            rfl
          refine pure_ (i := 1) (N := some 17) (v := ?_) (a' := ?_) #[true, true, false, false, false, false, false] rfl rfl (by kernel_rfl) (fun _ _ _ h => h) (Or.inl ⟨by rfl, ?_⟩) ?_ ?_
          rotate_left
          · intro w'
            go_simp
            first | with_reducible rfl | (simp [Instr.field, asAgg, Go.part, run_underlying hu22, run_underlying hu45, run_underlying hu55]; rfl) | rfl
          rotate_left
          · simp only [Act.put, List.setIfInBounds_toArray, List.set_cons_zero, List.set_cons_succ, i64_w, i32_w]
            rfl
          refine pure_ (i := 2) (N := some 18) (v := ?_) (a' := ?_) #[true, true, true, false, false, false, false] rfl rfl (by kernel_rfl) (fun _ _ _ h => h) (Or.inl ⟨by rfl, ?_⟩) ?_ ?_
          rotate_left
          · intro w'
            go_simp
            first | with_reducible rfl | (simp [Instr.field, asAgg, Go.part, run_underlying hu22, run_underlying hu45, run_underlying hu55]; rfl) | rfl
          rotate_left
          · simp only [Act.put, List.setIfInBounds_toArray, List.set_cons_zero, List.set_cons_succ, i64_w, i32_w]
            rfl
          refine pure_ (i := 3) (N := some 19) (v := ?_) (a' := ?_) #[true, true, true, true, false, false, false] rfl rfl (by kernel_rfl) (fun _ _ _ h => h) (Or.inl ⟨by rfl, ?_⟩) ?_ ?_
          rotate_left
          · intro w'
            go_simp
            first | with_reducible rfl | (simp [Instr.field, asAgg, Go.part, run_underlying hu22, run_underlying hu45, run_underlying hu55]; rfl) | rfl
          rotate_left
          · simp only [Act.put, List.setIfInBounds_toArray, List.set_cons_zero, List.set_cons_succ, i64_w, i32_w]
            rfl
          refine take_ (i := 4) (N := some 20) (v := ?_) (a' := ?_) #[true, true, true, true, true, false, false] rfl rfl (by kernel_rfl) (fun _ _ _ h => h) (Or.inl ⟨by rfl, ?_⟩) hHeld ?_ ?_
          rotate_left
          · intro w' s0
            obtain ⟨s0_, s1_⟩ := s0
            go_simp
            first | with_reducible rfl | (simp [Instr.field, asAgg, Go.part, run_underlying hu22, run_underlying hu45, run_underlying hu55]; rfl) | rfl
          rotate_left
          · simp only [Act.put, List.setIfInBounds_toArray, List.set_cons_zero, List.set_cons_succ, i64_w, i32_w]
            rfl
          refine one_ (i := 5) (N := some 21) #[true, true, true, true, true, true, false] rfl rfl (by kernel_rfl) (by decide) (fun K hK => ?_)
          refine goes_ Try.func37 (by kernel_rfl) rfl #[.agg (ics l0), .slice Ae105 (rdOf [] t104 x7_4).length ce105] (by rfl) rfl rfl (by (try simp only [List.map_toArray, List.map_cons, List.map_nil]); first | done | rfl | (simp only [List.length_drop, List.length_take]; rfl)) ?_
          with_reducible refine (spec_l8Get.calls l0 _ _ (rdOf [] t104 x7_4) t106 _ ?sd0 ?sd1 ?sd2 A9_.out).mono ?_
          (case sd0 => exact HL0.out)
          (case sd1 => exact (HM.out.heldC 0 rfl HRe105.out))
          (case sd2 => exact HCe105.out)
          rintro e_ w12_ ⟨rfl, hb⟩
          refine ⟨_, rfl, ?_⟩
          have n_ := Aside0.mk (HM.out.step hb)
          clear HM
          have HM := n_
          clear n_
          clear hb
          refine hK.out _ _ (⟨(HM.out.box 1 rfl), hz105.out _ (HM.out.any 0 rfl)⟩) (fun hHeld => ?_)
          clear hK K
          refine norm_ (a' := ?_) ?_ ?_
          rotate_left
          · show Act.put _ (some 21) _ = _
            simp only [Act.put, List.setIfInBounds_toArray, List.set_cons_zero, List.set_cons_succ, i64_w, i32_w]
            rfl
          refine pure_ (i := 6) (N := some 22) (v := ?_) (a' := ?_) #[true, true, true, true, true, true, true] rfl rfl (by kernel_rfl) (fun _ _ _ h => h) (Or.inl ⟨by rfl, ?_⟩) ?_ ?_
          rotate_left
          · intro w'
            go_simp
            first | with_reducible rfl | (simp [Instr.field, asAgg, Go.part, run_underlying hu22, run_underlying hu45, run_underlying hu55]; rfl) | rfl
          rotate_left
          · simp only [Act.put, List.setIfInBounds_toArray, List.set_cons_zero, List.set_cons_succ, i64_w, i32_w]
            rfl
          refine done_ (by kernel_rfl) ?_
          have H := H'.out
          clear H'
          by_cases c13_ : t106 = 0
          · rw [if_pos c13_] at H
            have c13_b0 : (t106 == 0) = true := beq_iff_eq.mpr c13_
            have c13_b1 : (t106 != 0) = false := bne_eq_false_iff_eq.mpr c13_
            clear c13_
            have H' := Aside0.mk H
            clear H
            go_wp2
            go_roundg k6_
            case measure => have hHK5__ := HK5_.out; omega
            case rel => exact ⟨(wrap64 (x7_4 + 1)), (by first | rfl | (simp; done) | (simp only [i64_w]; done) | (simp [i64_w]; done) | (simp [*]; done)), H', ⟨by have hHK5__ := HK5_.out; omega⟩, HM⟩
          · rw [if_neg c13_] at H
            have c13_b0 : (t106 == 0) = false := beq_eq_false_iff_ne.mpr c13_
            have c13_b1 : (t106 != 0) = true := bne_iff_ne.mpr c13_
            clear c13_
            simp only [Option.some.injEq, Prod.mk.injEq] at H
            obtain ⟨rfl, rfl⟩ := H
            have p107 : 0 ≤ (x7_4 : Int) := of_decide_eq_true (by first | (with_reducible assumption) | assumption)
            have q107 : (x7_4 : Int) < (t104.length : Int) := of_decide_eq_true (by first | (with_reducible assumption) | assumption)
            obtain ⟨ad107, Ae107, ce107, e107, hx107, hle107, hC107, hy107⟩ := held_elem HRh2.out (HM.out.any 0 rfl) x7_4 p107 q107
            obtain rfl : ad105 = ad107 := (by injection e107)
            have hs107 := same_slice hy107 HY105.out
            rw [hs107.1, hs107.2] at hx107
            clear hs107 hy107 hC107 hle107
            replace p107 := eq_true p107
            replace q107 := eq_true q107
            go_wp2
            go_ret2
            exact ⟨_, by first | rfl | (simp; done) | (simp only [i64_w]; done) | (simp [i64_w]; done) | (simp [*]; done), ⟨_, _, rfl, HCe105.out, HM.out.retF 0 rfl HRe105.out⟩, HM.out.below⟩
        · rw [if_neg c8_] at H
          have c8_b0 : decide (0 ≤ x7_4) = false := decide_eq_false c8_
          clear c8_
          exact absurd H (by simp)
      · rw [if_neg c7_] at H
        have c7_b0 : decide (x7_4 < (t104.length : Int)) = false := decide_eq_false c7_
        clear c7_
        obtain ⟨y108, hy108⟩ : ∃ y_, y_ = (([] : List Int)) := ⟨_, rfl⟩
        replace H : (some (y108, false)) = some (r1, r2) := by first | (rw [hy108]; with_reducible exact H) | (have H2_ := (Option.bind_some _ _).symm.trans H; rw [hy108]; with_reducible exact H2_) | (have H2_ := (Option.bind_some _ _).symm.trans H; with_reducible exact H2_) | with_reducible exact H | (rw [hy108]; exact H) | exact H
        have Ny108 := Aside0.mk hy108
        clear hy108
        simp only [Option.some.injEq, Prod.mk.injEq] at H
        obtain ⟨rfl, rfl⟩ := H
        go_wp2_with (first | ((with_reducible refine gate_dst (N := 27) rfl ?_); refine Kd.R_lit (Kd.int .i64) _ 3 ?hg (N := 27) ?hd (xs := ([] : List Int)) (inner := []) (ok := fun _ => True) (okp := fun _ => True) ?hr ?hp (fun _ hk => hk) trivial (Below.refl _ _) (Nat.le_refl _) (by simp) ?_; (case hd => rfl); (case hg => rfl); (case hr => first | (go_simp; done) | (go_simp; rfl)); (case hp => exact (Reps.none _ _)); intro vv_ w14_ ho hb hg_ hnew_; clear hg_ hnew_; rw [← Ny108.out] at ho; obtain ⟨Ao3_0, co3_0, ev_⟩ := Kd.R_slice ho; subst ev_; have n_ := Aside0.mk (HM.out.addR hb ho); clear HM; have HM := n_; clear n_; clear hb ho))
        go_ret2
        exact ⟨_, by first | rfl | (simp; done) | (simp only [i64_w]; done) | (simp [i64_w]; done) | (simp [*]; done), (RoS.ofR (HM.out.R 0 rfl)), HM.out.below⟩

end Go.Proofs.Ytblhjcdfccggfaa.Q
