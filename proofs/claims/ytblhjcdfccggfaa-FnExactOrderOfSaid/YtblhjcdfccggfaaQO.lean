-- Written by a program of this session's own (wip/wgen.py): what functions of the program compute, and that they do.
import Derived.Below
import Derived.Deep.Draws
import Derived.Deep.AppendLies
import Derived.Maps.AppendAt
import Derived.OwnWalk
import Derived.Laws.BytesArg
import Derived.Laws.MakeOwn
import Derived.Laws.OwnMore
import Derived.Deep.OwnRows
import Derived.Tactics
import Derived.Lib.ConvBytes
import Derived.Laws.Slices
import Derived.WalkKit
import Derived.KernelRfl
import Derived.RowKit3
import Derived.Deep.LoopGhost
import Derived.Deep.QuietTactic
import Derived.BigQuiet
import Derived.WideLaws
import Derived.Deep.DeepCutAuto
import Derived.Deep.CutBlock
import Derived.Deep.RegionHeld3
import Derived.Laws.Rows
import Derived.Lib.AppendStr
import Derived.ArgAppend
import Derived.Laws.IdiomCopy
import Derived.OrdersHeld
import Derived.Laws.BitsLemmas
import Derived.RowKit
import Derived.Lib.SliceRun
import Derived.Test.YtblhjcdfccggfaaHM
import Derived.Test.YtblhjcdfccggfaaRG
import Derived.Test.YtblhjcdfccggfaaProg
import Derived.Test.YtblhjcdfccggfaaK1
import Derived.Test.YtblhjcdfccggfaaK2
import Derived.Test.YtblhjcdfccggfaaKL1
import Derived.Test.YtblhjcdfccggfaaQI
import Derived.Test.YtblhjcdfccggfaaQ8
import Derived.Test.YtblhjcdfccggfaaQ9
import Derived.Test.YtblhjcdfccggfaaQA
import Derived.Test.YtblhjcdfccggfaaQL
import Derived.Test.YtblhjcdfccggfaaQB
namespace Go.Proofs.Ytblhjcdfccggfaa.Q
open Go.RowKit Go.Proofs.YtblhjcdfccggfaaW.PrintWords Go.Proofs.YtblhjcdfccggfaaW.PrintLast Go.Proofs.YtblhjcdfccggfaaW.PrintMore Go.Proofs.YtblhjcdfccggfaaM Go.Proofs.Ytblhjcdfccggfaa.K Go.Proofs.Ytblhjcdfccggfaa.KL
attribute [local go_sem] max2_int min2_int max_two min_two max_three min_three max_four min_four
set_option linter.unusedVariables false
set_option linter.unusedSimpArgs false

/-! ### spec_OrderOf: function 27 -/
def spec_OrderOf.l0 : Nat → (Int) → (List Int) → Option (Int × Bool)
  | 0, _, _ => none
  | k + 1, x5, m2 => if x5 ≤ 3 then ((spec_l8First.f k m2 x5).bind fun bt104 => (if bt104.2 = true then (some (x5, true)) else (spec_OrderOf.l0 k (wrap64 (x5 + 1)) m2))) else (some (4, true))
def spec_OrderOf.f (k : Nat) (l0 : List Int) : Option (Int × Bool) := (spec_l2Word.f k l0).bind fun t101 => (if t101 = true then ((spec_l2Reduce.f k l0).bind fun t102 => (if (t102.length : Int) = 0 then (some (0, true)) else ((spec_l8Of.f k l0).bind fun t103 => (spec_OrderOf.l0 k 1 t103)))) else (some (0, false)))
set_option maxHeartbeats 8000000 in
set_option maxRecDepth 100000 in
theorem spec_OrderOf.calls (k : Nat) (A0 : Option Addr) (c0 : Nat) (l0 : List Int) (r1 : Int) (r2 : Bool) (w : World) (hr0 : Kd.C (Kd.int .i64) w A0 l0.length l0) (hc0 : l0.length ≤ c0) (h : spec_OrderOf.f k l0 = some (r1, r2)) :
    Calls Try.prog 27 #[.slice A0 l0.length c0] w fun e w' => e = .returned (.tuple #[.int .i64 r1, .bool r2]) ∧ Below w.heap.size w w' := by
  have HR0 := Aside0.mk hr0
  have HC0 := Aside0.mk hc0
  clear hr0 hc0
  have hu45 := Try.underlying45
  have HM := Aside0.mk (MS.start w)
  have H : ((spec_l2Word.f k l0).bind fun t101 => (if t101 = true then ((spec_l2Reduce.f k l0).bind fun t102 => (if (t102.length : Int) = 0 then (some (0, true)) else ((spec_l8Of.f k l0).bind fun t103 => (spec_OrderOf.l0 k 1 t103)))) else (some (0, false)))) = some (r1, r2) := h
  clear h
  replace H := Option.bind_eq_some_iff.mp H
  obtain ⟨t101, A1_0, H⟩ := H
  replace H : (if t101 = true then ((spec_l2Reduce.f k l0).bind fun t102 => (if (t102.length : Int) = 0 then (some (0, true)) else ((spec_l8Of.f k l0).bind fun t103 => (spec_OrderOf.l0 k 1 t103)))) else (some (0, false))) = some (r1, r2) := H
  have A1_ := Aside0.mk A1_0
  clear A1_0
  by_cases c2_ : t101 = true
  · subst c2_
    have H1 : ((spec_l2Reduce.f k l0).bind fun t102 => (if (t102.length : Int) = 0 then (some (0, true)) else ((spec_l8Of.f k l0).bind fun t103 => (spec_OrderOf.l0 k 1 t103)))) = some (r1, r2) := by rw [if_pos rfl] at H; exact H
    clear H
    have H := H1
    clear H1
    replace H := Option.bind_eq_some_iff.mp H
    obtain ⟨t102, A3_0, H⟩ := H
    replace H : (if (t102.length : Int) = 0 then (some (0, true)) else ((spec_l8Of.f k l0).bind fun t103 => (spec_OrderOf.l0 k 1 t103))) = some (r1, r2) := H
    have A3_ := Aside0.mk A3_0
    clear A3_0
    by_cases c4_ : (t102.length : Int) = 0
    · rw [if_pos c4_] at H
      have c4_b0 : ((t102.length : Int) == 0) = true := beq_iff_eq.mpr c4_
      have c4_b1 : ((t102.length : Int) != 0) = false := bne_eq_false_iff_eq.mpr c4_
      clear c4_
      simp only [Option.some.injEq, Prod.mk.injEq] at H
      obtain ⟨rfl, rfl⟩ := H
      go_enter Try.func27, Try.ntmps27
      go_wp2_with (first | ((with_reducible refine gate_callee (f := 31) rfl ?_); (with_reducible refine gate_dst (N := 9) rfl ?_); refine goesL_ (some 9) rfl rfl Try.func31 (by kernel_rfl) rfl #[.slice A0 l0.length c0] rfl (by (try simp only [List.map_toArray, List.map_cons, List.map_nil]); first | done | rfl | (simp only [List.length_drop, List.length_take]; rfl)) ?_; (with_reducible refine (spec_l2Word.calls k _ _ l0 true _ ?sd0 ?sd1 A1_.out).mono ?_); (case sd0 => exact (Kd.C_below HR0.out HM.out.below)); (case sd1 => exact HC0.out); rintro e_ w5_ ⟨rfl, hd_⟩; refine ⟨_, rfl, ?_⟩; have hb := hd_.below; clear hd_; have n_ := Aside0.mk (HM.out.step hb); clear HM; have HM := n_; clear n_; clear hb) | ((with_reducible refine gate_callee (f := 46) rfl ?_); (with_reducible refine gate_dst (N := 12) rfl ?_); refine goesL_ (some 12) rfl rfl Try.func46 (by kernel_rfl) rfl #[.slice A0 l0.length c0] rfl (by (try simp only [List.map_toArray, List.map_cons, List.map_nil]); first | done | rfl | (simp only [List.length_drop, List.length_take]; rfl)) ?_; (with_reducible refine (spec_l2Reduce.calls k _ _ l0 t102 _ ?sd0 ?sd1 A3_.out).mono ?_); (case sd0 => exact (Kd.C_below HR0.out HM.out.below)); (case sd1 => exact HC0.out); rintro e_ w6_ ⟨vv0_, rfl, ho0_, hb⟩; refine ⟨_, rfl, ?_⟩; obtain ⟨Ao1_0, co1_0, ev_⟩ := Kd.R_slice ho0_; subst ev_; have n_ := Aside0.mk (HM.out.addR hb ho0_); clear HM; have HM := n_; clear n_; clear hb ho0_))
      go_ret2
      exact ⟨by first | rfl | (simp; done) | (simp only [i64_w]; done) | (simp [i64_w]; done) | (simp [*]; done), HM.out.below⟩
    · rw [if_neg c4_] at H
      have c4_b0 : ((t102.length : Int) == 0) = false := beq_eq_false_iff_ne.mpr c4_
      have c4_b1 : ((t102.length : Int) != 0) = true := bne_iff_ne.mpr c4_
      clear c4_
      replace H := Option.bind_eq_some_iff.mp H
      obtain ⟨t103, A7_0, H⟩ := H
      replace H : (spec_OrderOf.l0 k 1 t103) = some (r1, r2) := H
      have A7_ := Aside0.mk A7_0
      clear A7_0
      have H' := Aside0.mk H
      clear H
      go_enter Try.func27, Try.ntmps27
      go_wp2_with (first | ((with_reducible refine gate_callee (f := 31) rfl ?_); (with_reducible refine gate_dst (N := 9) rfl ?_); refine goesL_ (some 9) rfl rfl Try.func31 (by kernel_rfl) rfl #[.slice A0 l0.length c0] rfl (by (try simp only [List.map_toArray, List.map_cons, List.map_nil]); first | done | rfl | (simp only [List.length_drop, List.length_take]; rfl)) ?_; (with_reducible refine (spec_l2Word.calls k _ _ l0 true _ ?sd0 ?sd1 A1_.out).mono ?_); (case sd0 => exact (Kd.C_below HR0.out HM.out.below)); (case sd1 => exact HC0.out); rintro e_ w8_ ⟨rfl, hd_⟩; refine ⟨_, rfl, ?_⟩; have hb := hd_.below; clear hd_; have n_ := Aside0.mk (HM.out.step hb); clear HM; have HM := n_; clear n_; clear hb) | ((with_reducible refine gate_callee (f := 46) rfl ?_); (with_reducible refine gate_dst (N := 12) rfl ?_); refine goesL_ (some 12) rfl rfl Try.func46 (by kernel_rfl) rfl #[.slice A0 l0.length c0] rfl (by (try simp only [List.map_toArray, List.map_cons, List.map_nil]); first | done | rfl | (simp only [List.length_drop, List.length_take]; rfl)) ?_; (with_reducible refine (spec_l2Reduce.calls k _ _ l0 t102 _ ?sd0 ?sd1 A3_.out).mono ?_); (case sd0 => exact (Kd.C_below HR0.out HM.out.below)); (case sd1 => exact HC0.out); rintro e_ w9_ ⟨vv0_, rfl, ho0_, hb⟩; refine ⟨_, rfl, ?_⟩; obtain ⟨Ao1_0, co1_0, ev_⟩ := Kd.R_slice ho0_; subst ev_; have n_ := Aside0.mk (HM.out.addR hb ho0_); clear HM; have HM := n_; clear n_; clear hb ho0_) | ((with_reducible refine gate_callee (f := 30) rfl ?_); (with_reducible refine gate_dst (N := 16) rfl ?_); refine goesL_ (some 16) rfl rfl Try.func30 (by kernel_rfl) rfl #[.slice A0 l0.length c0] rfl (by (try simp only [List.map_toArray, List.map_cons, List.map_nil]); first | done | rfl | (simp only [List.length_drop, List.length_take]; rfl)) ?_; (with_reducible refine (spec_l8Of.calls k _ _ l0 t103 _ ?sd0 ?sd1 A7_.out).mono ?_); (case sd0 => exact (Kd.C_below HR0.out HM.out.below)); (case sd1 => exact HC0.out); rintro e_ w10_ ⟨rfl, ho0_, hb⟩; refine ⟨_, rfl, ?_⟩; have HLt103 := Aside0.mk ho0_; have n_ := Aside0.mk (HM.out.step hb); clear HM; have HM := n_; clear n_; clear hb ho0_) | ((with_reducible refine gate_dst (N := 4) rfl ?_); refine box_event ?hg (N := 4) ?hd (cs := (ics (List.replicate 258 0))) (t := 45) ?hr ?_; (case hd => rfl); (case hg => rfl); (case hr => first | (go_simp; done) | (go_simp; rfl)); intro gb2 hg w11_ hbox hb; have n_ := Aside0.mk (HM.out.addBox hb hbox hg); clear HM; have HM := n_; clear n_; clear hb hbox hg) | ((with_reducible refine gate_store (t := 45) (p := 4) rfl ?_); refine wpList_store_row rfl _ _ _ rfl gb2 (ics t103) rfl rfl 45 (ics (List.replicate 258 0)) (HM.out.box 0 rfl) (by rw [ics_size, HLt103.out]; kernel_rfl) ((ics_size _).trans (((List.length_replicate)).trans ((show _ = 258 from HLt103.out).symm.trans (ics_size _).symm))) (ics_one _) ?_; generalize hw : World.setRow _ _ _ = w12_; have n_ : Aside0 (MS w w12_ [.box gb2 45 (ics t103), .row 3 (.slice Ao1_0 t102.length co1_0) (encs (Value.int .i64) t102)]) := ⟨by rw [← hw]; exact HM.out.setRow 0 rfl _⟩; clear HM hw; have HM := n_; clear n_))
      go_loopg [5] k (fun kq v5 w' => ∃ (x5_13 : Int), v5 = .int .i64 x5_13 ∧ Aside0 (spec_OrderOf.l0 kq x5_13 t103 = some (r1, r2)) ∧ Aside0 (kq ≤ k) ∧ Aside0 (MS w w' [.box gb2 45 (ics t103), .row 3 (.slice Ao1_0 t102.length co1_0) (encs (Value.int .i64) t102)]))
      case atStart => exact ⟨(1), (by first | rfl | (simp; done) | (simp only [i64_w]; done) | (simp [i64_w]; done) | (simp [*]; done)), H', ⟨Nat.le_refl _⟩, HM⟩
      case round =>
        clear H'
        clear HM
        obtain ⟨x5_13, rfl, HA, HK14_, HM⟩ := hrel
        cases gk with
        | zero => exact absurd HA.out (by simp [spec_OrderOf.l0])
        | succ k15_ =>
          have H := HA.out
          clear HA
          simp only [spec_OrderOf.l0] at H
          by_cases c16_ : x5_13 ≤ 3
          · rw [if_pos c16_] at H
            have c16_b0 : decide (x5_13 ≤ 3) = true := decide_eq_true c16_
            clear c16_
            replace H := Option.bind_eq_some_iff.mp H
            obtain ⟨⟨t104, t105⟩, A17_0, H⟩ := H
            replace H : (if t105 = true then (some (x5_13, true)) else (spec_OrderOf.l0 k15_ (wrap64 (x5_13 + 1)) t103)) = some (r1, r2) := H
            have A17_ := Aside0.mk A17_0
            clear A17_0
            by_cases c18_ : t105 = true
            · subst c18_
              have H1 : (some (x5_13, true)) = some (r1, r2) := by rw [if_pos rfl] at H; exact H
              clear H
              have H := H1
              clear H1
              simp only [Option.some.injEq, Prod.mk.injEq] at H
              obtain ⟨rfl, rfl⟩ := H
              go_wp2_with (first | ((with_reducible refine gate_dst (N := 22) rfl ?_); refine wpList_load_row rfl _ _ rfl gb2 rfl 45 (ics t103) (0, 0) _ (HM.out.box 0 rfl) Try.underlying45 rfl (by rw [ics_size, HLt103.out]; kernel_rfl) ?_) | ((with_reducible refine gate_callee (f := 44) rfl ?_); (with_reducible refine gate_dst (N := 24) rfl ?_); refine goesL_ (some 24) rfl rfl Try.func44 (by kernel_rfl) rfl #[.agg (ics t103), .int .i64 x5_13] rfl (by (try simp only [List.map_toArray, List.map_cons, List.map_nil]); first | done | rfl | (simp only [List.length_drop, List.length_take]; rfl)) ?_; (with_reducible refine (spec_l8First.calls k15_ t103 x5_13 t104 true _ ?sd0 A17_.out).mono ?_); (case sd0 => exact HLt103.out); rintro e_ w19_ ⟨vv0_, rfl, ho0_, hb⟩; refine ⟨_, rfl, ?_⟩; obtain ⟨Ao3_0, co3_0, ev_, hl_, hF_⟩ := (id ho0_); subst ev_; obtain ⟨ow3, hF2_, hM_⟩ := HM.out.addRo hb hF_; have HRh3 := Aside0.mk hF2_; have HCh3 := Aside0.mk hl_; have n_ := Aside0.mk hM_; clear HM hF_ hF2_ hl_ hM_; have HM := n_; clear n_; clear hb ho0_))
              go_ret2
              exact ⟨by first | rfl | (simp; done) | (simp only [i64_w]; done) | (simp [i64_w]; done) | (simp [*]; done), HM.out.below⟩
            · replace c18_ := Bool.eq_false_iff.mpr c18_
              subst c18_
              have H1 : (spec_OrderOf.l0 k15_ (wrap64 (x5_13 + 1)) t103) = some (r1, r2) := by rw [if_neg (show ¬ (false = true) by decide)] at H; exact H
              clear H
              have H := H1
              clear H1
              have H' := Aside0.mk H
              clear H
              go_wp2_with (first | ((with_reducible refine gate_dst (N := 22) rfl ?_); refine wpList_load_row rfl _ _ rfl gb2 rfl 45 (ics t103) (0, 0) _ (HM.out.box 0 rfl) Try.underlying45 rfl (by rw [ics_size, HLt103.out]; kernel_rfl) ?_) | ((with_reducible refine gate_callee (f := 44) rfl ?_); (with_reducible refine gate_dst (N := 24) rfl ?_); refine goesL_ (some 24) rfl rfl Try.func44 (by kernel_rfl) rfl #[.agg (ics t103), .int .i64 x5_13] rfl (by (try simp only [List.map_toArray, List.map_cons, List.map_nil]); first | done | rfl | (simp only [List.length_drop, List.length_take]; rfl)) ?_; (with_reducible refine (spec_l8First.calls k15_ t103 x5_13 t104 false _ ?sd0 A17_.out).mono ?_); (case sd0 => exact HLt103.out); rintro e_ w20_ ⟨vv0_, rfl, ho0_, hb⟩; refine ⟨_, rfl, ?_⟩; obtain ⟨Ao3_0, co3_0, ev_, hl_, hF_⟩ := (id ho0_); subst ev_; obtain ⟨ow3, hF2_, hM_⟩ := HM.out.addRo hb hF_; have HRh3 := Aside0.mk hF2_; have HCh3 := Aside0.mk hl_; have n_ := Aside0.mk hM_; clear HM hF_ hF2_ hl_ hM_; have HM := n_; clear n_; clear hb ho0_))
              have n_ := Aside0.mk (show MS w w20_ [.box gb2 45 (ics t103), .row 3 (.slice Ao1_0 t102.length co1_0) (encs (Value.int .i64) t102)] from HM.out.drop 0)
              clear HM
              have HM := n_
              clear n_
              go_roundg k15_
              case measure => have hHK14__ := HK14_.out; omega
              case rel => exact ⟨(wrap64 (x5_13 + 1)), (by first | rfl | (simp; done) | (simp only [i64_w]; done) | (simp [i64_w]; done) | (simp [*]; done)), H', ⟨by have hHK14__ := HK14_.out; omega⟩, HM⟩
          · rw [if_neg c16_] at H
            have c16_b0 : decide (x5_13 ≤ 3) = false := decide_eq_false c16_
            clear c16_
            simp only [Option.some.injEq, Prod.mk.injEq] at H
            obtain ⟨rfl, rfl⟩ := H
            go_wp2
            go_ret2
            exact ⟨by first | rfl | (simp; done) | (simp only [i64_w]; done) | (simp [i64_w]; done) | (simp [*]; done), HM.out.below⟩
  · replace c2_ := Bool.eq_false_iff.mpr c2_
    subst c2_
    have H1 : (some (0, false)) = some (r1, r2) := by rw [if_neg (show ¬ (false = true) by decide)] at H; exact H
    clear H
    have H := H1
    clear H1
    simp only [Option.some.injEq, Prod.mk.injEq] at H
    obtain ⟨rfl, rfl⟩ := H
    go_enter Try.func27, Try.ntmps27
    go_wp2_with (first | ((with_reducible refine gate_callee (f := 31) rfl ?_); (with_reducible refine gate_dst (N := 9) rfl ?_); refine goesL_ (some 9) rfl rfl Try.func31 (by kernel_rfl) rfl #[.slice A0 l0.length c0] rfl (by (try simp only [List.map_toArray, List.map_cons, List.map_nil]); first | done | rfl | (simp only [List.length_drop, List.length_take]; rfl)) ?_; (with_reducible refine (spec_l2Word.calls k _ _ l0 false _ ?sd0 ?sd1 A1_.out).mono ?_); (case sd0 => exact (Kd.C_below HR0.out HM.out.below)); (case sd1 => exact HC0.out); rintro e_ w21_ ⟨rfl, hd_⟩; refine ⟨_, rfl, ?_⟩; have hb := hd_.below; clear hd_; have n_ := Aside0.mk (HM.out.step hb); clear HM; have HM := n_; clear n_; clear hb))
    go_ret2
    exact ⟨by first | rfl | (simp; done) | (simp only [i64_w]; done) | (simp [i64_w]; done) | (simp [*]; done), HM.out.below⟩

/-! ### spec_FirstCoefficient: function 23 -/
def spec_FirstCoefficient.l0 : Nat → (Int) → (List Int) → Option (List Int × Int × Bool)
  | 0, _, _ => none
  | k + 1, x6, m1 => if x6 ≤ 3 then ((spec_l8First.f k m1 x6).bind fun bt108 => (if bt108.2 = true then ((spec_l8Get.f m1 bt108.1).bind fun t110 => (some (bt108.1, t110, true))) else (spec_FirstCoefficient.l0 k (wrap64 (x6 + 1)) m1))) else (some ((([] : List Int)), 0, false))
def spec_FirstCoefficient.f (k : Nat) (l0 : List Int) : Option (List Int × Int × Bool) := (spec_l2Word.f k l0).bind fun t106 => (if t106 = true then ((spec_l8Of.f k l0).bind fun t107 => (spec_FirstCoefficient.l0 k 1 t107)) else (some ((([] : List Int)), 0, false)))
set_option maxHeartbeats 8000000 in
set_option maxRecDepth 100000 in
theorem spec_FirstCoefficient.calls (k : Nat) (A0 : Option Addr) (c0 : Nat) (l0 : List Int) (r1 : List Int) (r2 : Int) (r3 : Bool) (w : World) (hr0 : Kd.C (Kd.int .i64) w A0 l0.length l0) (hc0 : l0.length ≤ c0) (h : spec_FirstCoefficient.f k l0 = some (r1, r2, r3)) :
    Calls Try.prog 23 #[.slice A0 l0.length c0] w fun e w' => ∃ v0_ : Value, e = .returned (.tuple #[v0_, .int .i64 r2, .bool r3]) ∧ RoS (Kd.int .i64) w w' v0_ r1 ∧ Below w.heap.size w w' := by
  have HR0 := Aside0.mk hr0
  have HC0 := Aside0.mk hc0
  clear hr0 hc0
  have hu45 := Try.underlying45
  have HM := Aside0.mk (MS.start w)
  have H : ((spec_l2Word.f k l0).bind fun t106 => (if t106 = true then ((spec_l8Of.f k l0).bind fun t107 => (spec_FirstCoefficient.l0 k 1 t107)) else (some ((([] : List Int)), 0, false)))) = some (r1, r2, r3) := h
  clear h
  replace H := Option.bind_eq_some_iff.mp H
  obtain ⟨t106, A1_0, H⟩ := H
  replace H : (if t106 = true then ((spec_l8Of.f k l0).bind fun t107 => (spec_FirstCoefficient.l0 k 1 t107)) else (some ((([] : List Int)), 0, false))) = some (r1, r2, r3) := H
  have A1_ := Aside0.mk A1_0
  clear A1_0
  by_cases c2_ : t106 = true
  · subst c2_
    have H1 : ((spec_l8Of.f k l0).bind fun t107 => (spec_FirstCoefficient.l0 k 1 t107)) = some (r1, r2, r3) := by rw [if_pos rfl] at H; exact H
    clear H
    have H := H1
    clear H1
    replace H := Option.bind_eq_some_iff.mp H
    obtain ⟨t107, A3_0, H⟩ := H
    replace H : (spec_FirstCoefficient.l0 k 1 t107) = some (r1, r2, r3) := H
    have A3_ := Aside0.mk A3_0
    clear A3_0
    have H' := Aside0.mk H
    clear H
    go_enter Try.func23, Try.ntmps23
    go_wp2_with (first | ((with_reducible refine gate_callee (f := 31) rfl ?_); (with_reducible refine gate_dst (N := 10) rfl ?_); refine goesL_ (some 10) rfl rfl Try.func31 (by kernel_rfl) rfl #[.slice A0 l0.length c0] rfl (by (try simp only [List.map_toArray, List.map_cons, List.map_nil]); first | done | rfl | (simp only [List.length_drop, List.length_take]; rfl)) ?_; (with_reducible refine (spec_l2Word.calls k _ _ l0 true _ ?sd0 ?sd1 A1_.out).mono ?_); (case sd0 => exact (Kd.C_below HR0.out HM.out.below)); (case sd1 => exact HC0.out); rintro e_ w4_ ⟨rfl, hd_⟩; refine ⟨_, rfl, ?_⟩; have hb := hd_.below; clear hd_; have n_ := Aside0.mk (HM.out.step hb); clear HM; have HM := n_; clear n_; clear hb) | ((with_reducible refine gate_callee (f := 30) rfl ?_); (with_reducible refine gate_dst (N := 14) rfl ?_); refine goesL_ (some 14) rfl rfl Try.func30 (by kernel_rfl) rfl #[.slice A0 l0.length c0] rfl (by (try simp only [List.map_toArray, List.map_cons, List.map_nil]); first | done | rfl | (simp only [List.length_drop, List.length_take]; rfl)) ?_; (with_reducible refine (spec_l8Of.calls k _ _ l0 t107 _ ?sd0 ?sd1 A3_.out).mono ?_); (case sd0 => exact (Kd.C_below HR0.out HM.out.below)); (case sd1 => exact HC0.out); rintro e_ w5_ ⟨rfl, ho0_, hb⟩; refine ⟨_, rfl, ?_⟩; have HLt107 := Aside0.mk ho0_; have n_ := Aside0.mk (HM.out.step hb); clear HM; have HM := n_; clear n_; clear hb ho0_) | ((with_reducible refine gate_dst (N := 5) rfl ?_); refine box_event ?hg (N := 5) ?hd (cs := (ics (List.replicate 258 0))) (t := 45) ?hr ?_; (case hd => rfl); (case hg => rfl); (case hr => first | (go_simp; done) | (go_simp; rfl)); intro gb1 hg w6_ hbox hb; have n_ := Aside0.mk (HM.out.addBox hb hbox hg); clear HM; have HM := n_; clear n_; clear hb hbox hg) | ((with_reducible refine gate_store (t := 45) (p := 5) rfl ?_); refine wpList_store_row rfl _ _ _ rfl gb1 (ics t107) rfl rfl 45 (ics (List.replicate 258 0)) (HM.out.box 0 rfl) (by rw [ics_size, HLt107.out]; kernel_rfl) ((ics_size _).trans (((List.length_replicate)).trans ((show _ = 258 from HLt107.out).symm.trans (ics_size _).symm))) (ics_one _) ?_; generalize hw : World.setRow _ _ _ = w7_; have n_ : Aside0 (MS w w7_ [.box gb1 45 (ics t107)]) := ⟨by rw [← hw]; exact HM.out.setRow 0 rfl _⟩; clear HM hw; have HM := n_; clear n_))
    go_loopg [6] k (fun kq v6 w' => ∃ (x6_8 : Int), v6 = .int .i64 x6_8 ∧ Aside0 (spec_FirstCoefficient.l0 kq x6_8 t107 = some (r1, r2, r3)) ∧ Aside0 (kq ≤ k) ∧ Aside0 (MS w w' [.box gb1 45 (ics t107)]))
    case atStart => exact ⟨(1), (by first | rfl | (simp; done) | (simp only [i64_w]; done) | (simp [i64_w]; done) | (simp [*]; done)), H', ⟨Nat.le_refl _⟩, HM⟩
    case round =>
      clear H'
      clear HM
      obtain ⟨x6_8, rfl, HA, HK9_, HM⟩ := hrel
      cases gk with
      | zero => exact absurd HA.out (by simp [spec_FirstCoefficient.l0])
      | succ k10_ =>
        have H := HA.out
        clear HA
        simp only [spec_FirstCoefficient.l0] at H
        by_cases c11_ : x6_8 ≤ 3
        · rw [if_pos c11_] at H
          have c11_b0 : decide (x6_8 ≤ 3) = true := decide_eq_true c11_
          clear c11_
          replace H := Option.bind_eq_some_iff.mp H
          obtain ⟨⟨t108, t109⟩, A12_0, H⟩ := H
          replace H : (if t109 = true then ((spec_l8Get.f t107 t108).bind fun t110 => (some (t108, t110, true))) else (spec_FirstCoefficient.l0 k10_ (wrap64 (x6_8 + 1)) t107)) = some (r1, r2, r3) := H
          have A12_ := Aside0.mk A12_0
          clear A12_0
          by_cases c13_ : t109 = true
          · subst c13_
            have H1 : ((spec_l8Get.f t107 t108).bind fun t110 => (some (t108, t110, true))) = some (r1, r2, r3) := by rw [if_pos rfl] at H; exact H
            clear H
            have H := H1
            clear H1
            replace H := Option.bind_eq_some_iff.mp H
            obtain ⟨t110, A14_0, H⟩ := H
            replace H : (some (t108, t110, true)) = some (r1, r2, r3) := H
            have A14_ := Aside0.mk A14_0
            clear A14_0
            simp only [Option.some.injEq, Prod.mk.injEq] at H
            obtain ⟨rfl, rfl, rfl⟩ := H
            go_wp2_with (first | ((with_reducible refine gate_dst (N := 20) rfl ?_); refine wpList_load_row rfl _ _ rfl gb1 rfl 45 (ics t107) (0, 0) _ (HM.out.box 0 rfl) Try.underlying45 rfl (by rw [ics_size, HLt107.out]; kernel_rfl) ?_) | ((with_reducible refine gate_callee (f := 44) rfl ?_); (with_reducible refine gate_dst (N := 22) rfl ?_); refine goesL_ (some 22) rfl rfl Try.func44 (by kernel_rfl) rfl #[.agg (ics t107), .int .i64 x6_8] rfl (by (try simp only [List.map_toArray, List.map_cons, List.map_nil]); first | done | rfl | (simp only [List.length_drop, List.length_take]; rfl)) ?_; (with_reducible refine (spec_l8First.calls k10_ t107 x6_8 t108 true _ ?sd0 A12_.out).mono ?_); (case sd0 => exact HLt107.out); rintro e_ w15_ ⟨vv0_, rfl, ho0_, hb⟩; refine ⟨_, rfl, ?_⟩; obtain ⟨Ao2_0, co2_0, ev_, hl_, hF_⟩ := (id ho0_); subst ev_; obtain ⟨ow2, hF2_, hM_⟩ := HM.out.addRo hb hF_; have HRh2 := Aside0.mk hF2_; have HCh2 := Aside0.mk hl_; have n_ := Aside0.mk hM_; clear HM hF_ hF2_ hl_ hM_; have HM := n_; clear n_; clear hb ho0_) | ((with_reducible refine gate_dst (N := 27) rfl ?_); refine wpList_load_row rfl _ _ rfl gb1 rfl 45 (ics t107) (0, 0) _ (HM.out.box 1 rfl) Try.underlying45 rfl (by rw [ics_size, HLt107.out]; kernel_rfl) ?_) | ((with_reducible refine gate_callee (f := 37) rfl ?_); (with_reducible refine gate_dst (N := 29) rfl ?_); refine goesL_ (some 29) rfl rfl Try.func37 (by kernel_rfl) rfl #[.agg (ics t107), .slice Ao2_0 t108.length co2_0] rfl (by (try simp only [List.map_toArray, List.map_cons, List.map_nil]); first | done | rfl | (simp only [List.length_drop, List.length_take]; rfl)) ?_; (with_reducible refine (spec_l8Get.calls t107 _ _ t108 t110 _ ?sd0 ?sd1 ?sd2 A14_.out).mono ?_); (case sd0 => exact HLt107.out); (case sd1 => exact (HM.out.heldC 0 rfl HRh2.out)); (case sd2 => exact HCh2.out); rintro e_ w16_ ⟨rfl, hb⟩; refine ⟨_, rfl, ?_⟩; have n_ := Aside0.mk (HM.out.step hb); clear HM; have HM := n_; clear n_; clear hb))
            go_ret3
            exact ⟨_, by first | rfl | (simp; done) | (simp only [i64_w]; done) | (simp [i64_w]; done) | (simp [*]; done), ⟨_, _, rfl, HCh2.out, HM.out.retF 0 rfl HRh2.out⟩, HM.out.below⟩
          · replace c13_ := Bool.eq_false_iff.mpr c13_
            subst c13_
            have H1 : (spec_FirstCoefficient.l0 k10_ (wrap64 (x6_8 + 1)) t107) = some (r1, r2, r3) := by rw [if_neg (show ¬ (false = true) by decide)] at H; exact H
            clear H
            have H := H1
            clear H1
            have H' := Aside0.mk H
            clear H
            go_wp2_with (first | ((with_reducible refine gate_dst (N := 20) rfl ?_); refine wpList_load_row rfl _ _ rfl gb1 rfl 45 (ics t107) (0, 0) _ (HM.out.box 0 rfl) Try.underlying45 rfl (by rw [ics_size, HLt107.out]; kernel_rfl) ?_) | ((with_reducible refine gate_callee (f := 44) rfl ?_); (with_reducible refine gate_dst (N := 22) rfl ?_); refine goesL_ (some 22) rfl rfl Try.func44 (by kernel_rfl) rfl #[.agg (ics t107), .int .i64 x6_8] rfl (by (try simp only [List.map_toArray, List.map_cons, List.map_nil]); first | done | rfl | (simp only [List.length_drop, List.length_take]; rfl)) ?_; (with_reducible refine (spec_l8First.calls k10_ t107 x6_8 t108 false _ ?sd0 A12_.out).mono ?_); (case sd0 => exact HLt107.out); rintro e_ w17_ ⟨vv0_, rfl, ho0_, hb⟩; refine ⟨_, rfl, ?_⟩; obtain ⟨Ao2_0, co2_0, ev_, hl_, hF_⟩ := (id ho0_); subst ev_; obtain ⟨ow2, hF2_, hM_⟩ := HM.out.addRo hb hF_; have HRh2 := Aside0.mk hF2_; have HCh2 := Aside0.mk hl_; have n_ := Aside0.mk hM_; clear HM hF_ hF2_ hl_ hM_; have HM := n_; clear n_; clear hb ho0_))
            have n_ := Aside0.mk (show MS w w17_ [.box gb1 45 (ics t107)] from HM.out.drop 0)
            clear HM
            have HM := n_
            clear n_
            go_roundg k10_
            case measure => have hHK9__ := HK9_.out; omega
            case rel => exact ⟨(wrap64 (x6_8 + 1)), (by first | rfl | (simp; done) | (simp only [i64_w]; done) | (simp [i64_w]; done) | (simp [*]; done)), H', ⟨by have hHK9__ := HK9_.out; omega⟩, HM⟩
        · rw [if_neg c11_] at H
          have c11_b0 : decide (x6_8 ≤ 3) = false := decide_eq_false c11_
          clear c11_
          obtain ⟨y111, hy111⟩ : ∃ y_, y_ = (([] : List Int)) := ⟨_, rfl⟩
          replace H : (some (y111, 0, false)) = some (r1, r2, r3) := by first | (rw [hy111]; with_reducible exact H) | (have H2_ := (Option.bind_some _ _).symm.trans H; rw [hy111]; with_reducible exact H2_) | (have H2_ := (Option.bind_some _ _).symm.trans H; with_reducible exact H2_) | with_reducible exact H | (rw [hy111]; exact H) | exact H
          have Ny111 := Aside0.mk hy111
          clear hy111
          simp only [Option.some.injEq, Prod.mk.injEq] at H
          obtain ⟨rfl, rfl, rfl⟩ := H
          go_wp2_with (first | ((with_reducible refine gate_dst (N := 30) rfl ?_); refine Kd.R_lit (Kd.int .i64) _ 3 ?hg (N := 30) ?hd (xs := ([] : List Int)) (inner := []) (ok := fun _ => True) (okp := fun _ => True) ?hr ?hp (fun _ hk => hk) trivial (Below.refl _ _) (Nat.le_refl _) (by simp) ?_; (case hd => rfl); (case hg => rfl); (case hr => first | (go_simp; done) | (go_simp; rfl)); (case hp => exact (Reps.none _ _)); intro vv_ w18_ ho hb hg_ hnew_; clear hg_ hnew_; rw [← Ny111.out] at ho; obtain ⟨Ao3_0, co3_0, ev_⟩ := Kd.R_slice ho; subst ev_; have n_ := Aside0.mk (HM.out.addR hb ho); clear HM; have HM := n_; clear n_; clear hb ho))
          go_ret3
          exact ⟨_, by first | rfl | (simp; done) | (simp only [i64_w]; done) | (simp [i64_w]; done) | (simp [*]; done), (RoS.ofR (HM.out.R 0 rfl)), HM.out.below⟩
  · replace c2_ := Bool.eq_false_iff.mpr c2_
    subst c2_
    have H1 : (some ((([] : List Int)), 0, false)) = some (r1, r2, r3) := by rw [if_neg (show ¬ (false = true) by decide)] at H; exact H
    clear H
    have H := H1
    clear H1
    obtain ⟨y112, hy112⟩ : ∃ y_, y_ = (([] : List Int)) := ⟨_, rfl⟩
    replace H : (some (y112, 0, false)) = some (r1, r2, r3) := by first | (rw [hy112]; with_reducible exact H) | (have H2_ := (Option.bind_some _ _).symm.trans H; rw [hy112]; with_reducible exact H2_) | (have H2_ := (Option.bind_some _ _).symm.trans H; with_reducible exact H2_) | with_reducible exact H | (rw [hy112]; exact H) | exact H
    have Ny112 := Aside0.mk hy112
    clear hy112
    simp only [Option.some.injEq, Prod.mk.injEq] at H
    obtain ⟨rfl, rfl, rfl⟩ := H
    go_enter Try.func23, Try.ntmps23
    go_wp2_with (first | ((with_reducible refine gate_callee (f := 31) rfl ?_); (with_reducible refine gate_dst (N := 10) rfl ?_); refine goesL_ (some 10) rfl rfl Try.func31 (by kernel_rfl) rfl #[.slice A0 l0.length c0] rfl (by (try simp only [List.map_toArray, List.map_cons, List.map_nil]); first | done | rfl | (simp only [List.length_drop, List.length_take]; rfl)) ?_; (with_reducible refine (spec_l2Word.calls k _ _ l0 false _ ?sd0 ?sd1 A1_.out).mono ?_); (case sd0 => exact (Kd.C_below HR0.out HM.out.below)); (case sd1 => exact HC0.out); rintro e_ w19_ ⟨rfl, hd_⟩; refine ⟨_, rfl, ?_⟩; have hb := hd_.below; clear hd_; have n_ := Aside0.mk (HM.out.step hb); clear HM; have HM := n_; clear n_; clear hb) | ((with_reducible refine gate_dst (N := 12) rfl ?_); refine Kd.R_lit (Kd.int .i64) _ 3 ?hg (N := 12) ?hd (xs := ([] : List Int)) (inner := []) (ok := fun _ => True) (okp := fun _ => True) ?hr ?hp (fun _ hk => hk) trivial (Below.refl _ _) (Nat.le_refl _) (by simp) ?_; (case hd => rfl); (case hg => rfl); (case hr => first | (go_simp; done) | (go_simp; rfl)); (case hp => exact (Reps.none _ _)); intro vv_ w20_ ho hb hg_ hnew_; clear hg_ hnew_; rw [← Ny112.out] at ho; obtain ⟨Ao4_0, co4_0, ev_⟩ := Kd.R_slice ho; subst ev_; have n_ := Aside0.mk (HM.out.addR hb ho); clear HM; have HM := n_; clear n_; clear hb ho))
    go_ret3
    exact ⟨_, by first | rfl | (simp; done) | (simp only [i64_w]; done) | (simp [i64_w]; done) | (simp [*]; done), (RoS.ofR (HM.out.R 0 rfl)), HM.out.below⟩

end Go.Proofs.Ytblhjcdfccggfaa.Q
