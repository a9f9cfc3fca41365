-- Written by a program of this session's own (wip/wgen.py): what functions of the program compute, and that they do.
import Derived.Below
import Derived.Deep.Draws
import Derived.Deep.AppendLies
import Derived.Maps.AppendAt
import Derived.OwnWalk
import Derived.Laws.BytesArg
import Derived.Laws.MakeOwn
import Derived.Laws.OwnMore
import Derived.Deep.OwnRows
import Derived.Tactics
import Derived.Lib.ConvBytes
import Derived.Laws.Slices
import Derived.WalkKit
import Derived.KernelRfl
import Derived.RowKit3
import Derived.Deep.LoopGhost
import Derived.Deep.QuietTactic
import Derived.BigQuiet
import Derived.WideLaws
import Derived.Deep.DeepCutAuto
import Derived.Deep.CutBlock
import Derived.Deep.RegionHeld3
import Derived.Laws.Rows
import Derived.Lib.AppendStr
import Derived.ArgAppend
import Derived.Laws.IdiomCopy
import Derived.OrdersHeld
import Derived.Laws.BitsLemmas
import Derived.RowKit
import Derived.Lib.SliceRun
import Derived.Test.YtblhjcdfccggfaaHM
import Derived.Test.YtblhjcdfccggfaaRG
import Derived.Test.YtblhjcdfccggfaaProg
import Derived.Test.YtblhjcdfccggfaaK1
import Derived.Test.YtblhjcdfccggfaaK2
import Derived.Test.YtblhjcdfccggfaaKL1
import Derived.Test.YtblhjcdfccggfaaQI
import Derived.Test.YtblhjcdfccggfaaQ8
import Derived.Test.YtblhjcdfccggfaaQ9
import Derived.Test.YtblhjcdfccggfaaQA
import Derived.Test.YtblhjcdfccggfaaCO
import Derived.Test.YtblhjcdfccggfaaQL
import Derived.Test.YtblhjcdfccggfaaQB
namespace Go.Proofs.Ytblhjcdfccggfaa.Q
open Go.RowKit Go.Proofs.YtblhjcdfccggfaaW.PrintWords Go.Proofs.YtblhjcdfccggfaaW.PrintLast Go.Proofs.YtblhjcdfccggfaaW.PrintMore Go.Proofs.YtblhjcdfccggfaaM Go.Proofs.Ytblhjcdfccggfaa.K Go.Proofs.Ytblhjcdfccggfaa.KL
attribute [local go_sem] max2_int min2_int max_two min_two max_three min_three max_four min_four
set_option linter.unusedVariables false
set_option linter.unusedSimpArgs false

/-! ### impl_OrderOf: function 28 -/
def impl_OrderOf.f (k : Nat) (l0 : List Int) : Option (Int × Bool) := (impl_isWord.f k l0).bind fun t101 => (if t101 = true then ((impl_reduced.f k l0).bind fun t102 => (if (t102.length : Int) = 0 then (some (0, true)) else ((impl_coefficientsOf.f k l0).bind fun t103 => ((impl_coefficients_first.f k t103).bind fun t104 => (if t104.length = 0 then (some (4, true)) else (some ((t104.length : Int), true))))))) else (some (0, false)))
set_option maxHeartbeats 8000000 in
set_option maxRecDepth 100000 in
theorem impl_OrderOf.calls (k : Nat) (A0 : Option Addr) (c0 : Nat) (l0 : List Int) (r1 : Int) (r2 : Bool) (w : World) (hr0 : Kd.C (Kd.int .i64) w A0 l0.length l0) (hc0 : l0.length ≤ c0) (h : impl_OrderOf.f k l0 = some (r1, r2)) :
    Calls Try.prog 28 #[.slice A0 l0.length c0] w fun e w' => e = .returned (.tuple #[.int .i64 r1, .bool r2]) ∧ Below w.heap.size w w' := by
  have HR0 := Aside0.mk hr0
  have HC0 := Aside0.mk hc0
  clear hr0 hc0
  have qeql22_ : ∀ (W_ : World) (a_ : Option Addr) (n_ c_ n2_ c2_ : Nat), (binOp .eql 22 (.slice a_ n_ c_) (.slice none n2_ c2_)).run Try.prog W_ = .ok (.bool (a_.isNone)) W_ := fun W_ a_ n_ c_ n2_ c2_ => by simp only [binOp]; simp [Op.equal, Op.maxDepth, Lib.run_equalIn_slice_nil W_ 9999 22 3 a_ n_ c_ n2_ c2_ Try.underlying22]
  have qneq22_ : ∀ (W_ : World) (a_ : Option Addr) (n_ c_ n2_ c2_ : Nat), (binOp .neq 22 (.slice a_ n_ c_) (.slice none n2_ c2_)).run Try.prog W_ = .ok (.bool (!a_.isNone)) W_ := fun W_ a_ n_ c_ n2_ c2_ => by simp only [binOp]; simp [Op.equal, Op.maxDepth, Lib.run_equalIn_slice_nil W_ 9999 22 3 a_ n_ c_ n2_ c2_ Try.underlying22]
  have HM := Aside0.mk (MS.start w)
  have H : ((impl_isWord.f k l0).bind fun t101 => (if t101 = true then ((impl_reduced.f k l0).bind fun t102 => (if (t102.length : Int) = 0 then (some (0, true)) else ((impl_coefficientsOf.f k l0).bind fun t103 => ((impl_coefficients_first.f k t103).bind fun t104 => (if t104.length = 0 then (some (4, true)) else (some ((t104.length : Int), true))))))) else (some (0, false)))) = some (r1, r2) := h
  clear h
  replace H := Option.bind_eq_some_iff.mp H
  obtain ⟨t101, A1_0, H⟩ := H
  replace H : (if t101 = true then ((impl_reduced.f k l0).bind fun t102 => (if (t102.length : Int) = 0 then (some (0, true)) else ((impl_coefficientsOf.f k l0).bind fun t103 => ((impl_coefficients_first.f k t103).bind fun t104 => (if t104.length = 0 then (some (4, true)) else (some ((t104.length : Int), true))))))) else (some (0, false))) = some (r1, r2) := H
  have A1_ := Aside0.mk A1_0
  clear A1_0
  by_cases c2_ : t101 = true
  · subst c2_
    have H1 : ((impl_reduced.f k l0).bind fun t102 => (if (t102.length : Int) = 0 then (some (0, true)) else ((impl_coefficientsOf.f k l0).bind fun t103 => ((impl_coefficients_first.f k t103).bind fun t104 => (if t104.length = 0 then (some (4, true)) else (some ((t104.length : Int), true))))))) = some (r1, r2) := by rw [if_pos rfl] at H; exact H
    clear H
    have H := H1
    clear H1
    replace H := Option.bind_eq_some_iff.mp H
    obtain ⟨t102, A3_0, H⟩ := H
    replace H : (if (t102.length : Int) = 0 then (some (0, true)) else ((impl_coefficientsOf.f k l0).bind fun t103 => ((impl_coefficients_first.f k t103).bind fun t104 => (if t104.length = 0 then (some (4, true)) else (some ((t104.length : Int), true)))))) = some (r1, r2) := H
    have A3_ := Aside0.mk A3_0
    clear A3_0
    by_cases c4_ : (t102.length : Int) = 0
    · rw [if_pos c4_] at H
      have c4_b0 : ((t102.length : Int) == 0) = true := beq_iff_eq.mpr c4_
      have c4_b1 : ((t102.length : Int) != 0) = false := bne_eq_false_iff_eq.mpr c4_
      clear c4_
      simp only [Option.some.injEq, Prod.mk.injEq] at H
      obtain ⟨rfl, rfl⟩ := H
      go_enter Try.func28, Try.ntmps28
      go_wp2_with (first | ((with_reducible refine gate_callee (f := 38) rfl ?_); (with_reducible refine gate_dst (N := 6) rfl ?_); refine goesL_ (some 6) rfl rfl Try.func38 (by kernel_rfl) rfl #[.slice A0 l0.length c0] rfl (by (try simp only [List.map_toArray, List.map_cons, List.map_nil]); first | done | rfl | (simp only [List.length_drop, List.length_take]; rfl)) ?_; (with_reducible refine (impl_isWord.calls k _ _ l0 true _ ?sd0 ?sd1 A1_.out).mono ?_); (case sd0 => exact (Kd.C_below HR0.out HM.out.below)); (case sd1 => exact HC0.out); rintro e_ w5_ ⟨rfl, hb⟩; refine ⟨_, rfl, ?_⟩; have n_ := Aside0.mk (HM.out.step hb); clear HM; have HM := n_; clear n_; clear hb) | ((with_reducible refine gate_callee (f := 47) rfl ?_); (with_reducible refine gate_dst (N := 9) rfl ?_); refine goesL_ (some 9) rfl rfl Try.func47 (by kernel_rfl) rfl #[.slice A0 l0.length c0] rfl (by (try simp only [List.map_toArray, List.map_cons, List.map_nil]); first | done | rfl | (simp only [List.length_drop, List.length_take]; rfl)) ?_; (with_reducible refine (impl_reduced.calls k _ _ l0 t102 _ ?sd0 ?sd1 A3_.out).mono ?_); (case sd0 => exact (Kd.C_below HR0.out HM.out.below)); (case sd1 => exact HC0.out); rintro e_ w6_ ⟨vv0_, rfl, ho0_, hb⟩; refine ⟨_, rfl, ?_⟩; obtain ⟨Ao1_0, co1_0, ev_⟩ := Kd.R_slice ho0_; subst ev_; have n_ := Aside0.mk (HM.out.addR hb ho0_); clear HM; have HM := n_; clear n_; clear hb ho0_))
      go_ret2
      exact ⟨by first | rfl | (simp; done) | (simp only [i64_w]; done) | (simp [i64_w]; done) | (simp [*]; done), HM.out.below⟩
    · rw [if_neg c4_] at H
      have c4_b0 : ((t102.length : Int) == 0) = false := beq_eq_false_iff_ne.mpr c4_
      have c4_b1 : ((t102.length : Int) != 0) = true := bne_iff_ne.mpr c4_
      clear c4_
      replace H := Option.bind_eq_some_iff.mp H
      obtain ⟨t103, A7_0, H⟩ := H
      replace H : ((impl_coefficients_first.f k t103).bind fun t104 => (if t104.length = 0 then (some (4, true)) else (some ((t104.length : Int), true)))) = some (r1, r2) := H
      have A7_ := Aside0.mk A7_0
      clear A7_0
      replace H := Option.bind_eq_some_iff.mp H
      obtain ⟨t104, A8_0, H⟩ := H
      replace H : (if t104.length = 0 then (some (4, true)) else (some ((t104.length : Int), true))) = some (r1, r2) := H
      have A8_ := Aside0.mk A8_0
      clear A8_0
      by_cases c9_ : t104.length = 0
      · rw [if_pos c9_] at H
        have NQ3 := Aside0.mk c9_
        clear c9_
        simp only [Option.some.injEq, Prod.mk.injEq] at H
        obtain ⟨rfl, rfl⟩ := H
        go_enter Try.func28, Try.ntmps28
        go_wp2_with (first | ((with_reducible refine gate_callee (f := 38) rfl ?_); (with_reducible refine gate_dst (N := 6) rfl ?_); refine goesL_ (some 6) rfl rfl Try.func38 (by kernel_rfl) rfl #[.slice A0 l0.length c0] rfl (by (try simp only [List.map_toArray, List.map_cons, List.map_nil]); first | done | rfl | (simp only [List.length_drop, List.length_take]; rfl)) ?_; (with_reducible refine (impl_isWord.calls k _ _ l0 true _ ?sd0 ?sd1 A1_.out).mono ?_); (case sd0 => exact (Kd.C_below HR0.out HM.out.below)); (case sd1 => exact HC0.out); rintro e_ w10_ ⟨rfl, hb⟩; refine ⟨_, rfl, ?_⟩; have n_ := Aside0.mk (HM.out.step hb); clear HM; have HM := n_; clear n_; clear hb) | ((with_reducible refine gate_callee (f := 47) rfl ?_); (with_reducible refine gate_dst (N := 9) rfl ?_); refine goesL_ (some 9) rfl rfl Try.func47 (by kernel_rfl) rfl #[.slice A0 l0.length c0] rfl (by (try simp only [List.map_toArray, List.map_cons, List.map_nil]); first | done | rfl | (simp only [List.length_drop, List.length_take]; rfl)) ?_; (with_reducible refine (impl_reduced.calls k _ _ l0 t102 _ ?sd0 ?sd1 A3_.out).mono ?_); (case sd0 => exact (Kd.C_below HR0.out HM.out.below)); (case sd1 => exact HC0.out); rintro e_ w11_ ⟨vv0_, rfl, ho0_, hb⟩; refine ⟨_, rfl, ?_⟩; obtain ⟨Ao1_0, co1_0, ev_⟩ := Kd.R_slice ho0_; subst ev_; have n_ := Aside0.mk (HM.out.addR hb ho0_); clear HM; have HM := n_; clear n_; clear hb ho0_) | ((with_reducible refine gate_callee (f := 34) rfl ?_); (with_reducible refine gate_dst (N := 13) rfl ?_); refine goesL_ (some 13) rfl rfl Try.func34 (by kernel_rfl) rfl #[.slice A0 l0.length c0] rfl (by (try simp only [List.map_toArray, List.map_cons, List.map_nil]); first | done | rfl | (simp only [List.length_drop, List.length_take]; rfl)) ?_; (with_reducible refine (impl_coefficientsOf.calls k _ _ l0 t103 _ ?sd0 ?sd1 A7_.out).mono ?_); (case sd0 => exact (Kd.C_below HR0.out HM.out.below)); (case sd1 => exact HC0.out); rintro e_ w12_ ⟨vv0_, rfl, ho0_, hb⟩; refine ⟨_, rfl, ?_⟩; obtain ⟨hl_, gp2_, ev_, hF_⟩ := (id ho0_); subst ev_; obtain ⟨ow2, hF2_, hM_⟩ := HM.out.addRo hb hF_; have HRh2 := Aside0.mk hF2_; have HCh2 := Aside0.mk hl_; have n_ := Aside0.mk hM_; clear HM hF_ hF2_ hl_ hM_; have HM := n_; clear n_; clear hb ho0_) | ((with_reducible refine gate_callee (f := 45) rfl ?_); (with_reducible refine gate_dst (N := 14) rfl ?_); refine goesL_ (some 14) rfl rfl Try.func45 (by kernel_rfl) rfl #[.pointer (some ⟨gp2_, 0, none⟩)] rfl (by (try simp only [List.map_toArray, List.map_cons, List.map_nil]); first | done | rfl | (simp only [List.length_drop, List.length_take]; rfl)) ?_; (with_reducible refine (impl_coefficients_first.calls k _ t103 t104 _ ?sd0 ?sd1 A8_.out).mono ?_); (case sd0 => exact (HM.out.heldC 0 rfl HRh2.out)); (case sd1 => exact HCh2.out); rintro e_ w13_ ⟨vv0_, rfl, ho0_, hb⟩; refine ⟨_, rfl, ?_⟩; obtain ⟨Ao3_0, co3_0, ev_, hl_, hn_, hF_⟩ := (id ho0_); subst ev_; have HNh3 := Aside0.mk hn_; clear hn_; obtain ⟨ow3, hF2_, hM_⟩ := HM.out.addRo hb hF_; have HRh3 := Aside0.mk hF2_; have HCh3 := Aside0.mk hl_; have n_ := Aside0.mk hM_; clear HM hF_ hF2_ hl_ hM_; have HM := n_; clear n_; clear hb ho0_; have hA_ : Ao3_0 = none := (by have h_ := HNh3.out; have h2_ := NQ3.out; cases Ao3_0 with | none => rfl | some a_ => simp [h2_] at h_); subst hA_; have hA_ : t104 = [] := List.length_eq_zero_iff.mp NQ3.out))
        go_ret2
        exact ⟨by first | rfl | (simp; done) | (simp only [i64_w]; done) | (simp [i64_w]; done) | (simp [*]; done), HM.out.below⟩
      · rw [if_neg c9_] at H
        have NQ3 := Aside0.mk c9_
        clear c9_
        simp only [Option.some.injEq, Prod.mk.injEq] at H
        obtain ⟨rfl, rfl⟩ := H
        go_enter Try.func28, Try.ntmps28
        go_wp2_with (first | ((with_reducible refine gate_callee (f := 38) rfl ?_); (with_reducible refine gate_dst (N := 6) rfl ?_); refine goesL_ (some 6) rfl rfl Try.func38 (by kernel_rfl) rfl #[.slice A0 l0.length c0] rfl (by (try simp only [List.map_toArray, List.map_cons, List.map_nil]); first | done | rfl | (simp only [List.length_drop, List.length_take]; rfl)) ?_; (with_reducible refine (impl_isWord.calls k _ _ l0 true _ ?sd0 ?sd1 A1_.out).mono ?_); (case sd0 => exact (Kd.C_below HR0.out HM.out.below)); (case sd1 => exact HC0.out); rintro e_ w14_ ⟨rfl, hb⟩; refine ⟨_, rfl, ?_⟩; have n_ := Aside0.mk (HM.out.step hb); clear HM; have HM := n_; clear n_; clear hb) | ((with_reducible refine gate_callee (f := 47) rfl ?_); (with_reducible refine gate_dst (N := 9) rfl ?_); refine goesL_ (some 9) rfl rfl Try.func47 (by kernel_rfl) rfl #[.slice A0 l0.length c0] rfl (by (try simp only [List.map_toArray, List.map_cons, List.map_nil]); first | done | rfl | (simp only [List.length_drop, List.length_take]; rfl)) ?_; (with_reducible refine (impl_reduced.calls k _ _ l0 t102 _ ?sd0 ?sd1 A3_.out).mono ?_); (case sd0 => exact (Kd.C_below HR0.out HM.out.below)); (case sd1 => exact HC0.out); rintro e_ w15_ ⟨vv0_, rfl, ho0_, hb⟩; refine ⟨_, rfl, ?_⟩; obtain ⟨Ao1_0, co1_0, ev_⟩ := Kd.R_slice ho0_; subst ev_; have n_ := Aside0.mk (HM.out.addR hb ho0_); clear HM; have HM := n_; clear n_; clear hb ho0_) | ((with_reducible refine gate_callee (f := 34) rfl ?_); (with_reducible refine gate_dst (N := 13) rfl ?_); refine goesL_ (some 13) rfl rfl Try.func34 (by kernel_rfl) rfl #[.slice A0 l0.length c0] rfl (by (try simp only [List.map_toArray, List.map_cons, List.map_nil]); first | done | rfl | (simp only [List.length_drop, List.length_take]; rfl)) ?_; (with_reducible refine (impl_coefficientsOf.calls k _ _ l0 t103 _ ?sd0 ?sd1 A7_.out).mono ?_); (case sd0 => exact (Kd.C_below HR0.out HM.out.below)); (case sd1 => exact HC0.out); rintro e_ w16_ ⟨vv0_, rfl, ho0_, hb⟩; refine ⟨_, rfl, ?_⟩; obtain ⟨hl_, gp2_, ev_, hF_⟩ := (id ho0_); subst ev_; obtain ⟨ow2, hF2_, hM_⟩ := HM.out.addRo hb hF_; have HRh2 := Aside0.mk hF2_; have HCh2 := Aside0.mk hl_; have n_ := Aside0.mk hM_; clear HM hF_ hF2_ hl_ hM_; have HM := n_; clear n_; clear hb ho0_) | ((with_reducible refine gate_callee (f := 45) rfl ?_); (with_reducible refine gate_dst (N := 14) rfl ?_); refine goesL_ (some 14) rfl rfl Try.func45 (by kernel_rfl) rfl #[.pointer (some ⟨gp2_, 0, none⟩)] rfl (by (try simp only [List.map_toArray, List.map_cons, List.map_nil]); first | done | rfl | (simp only [List.length_drop, List.length_take]; rfl)) ?_; (with_reducible refine (impl_coefficients_first.calls k _ t103 t104 _ ?sd0 ?sd1 A8_.out).mono ?_); (case sd0 => exact (HM.out.heldC 0 rfl HRh2.out)); (case sd1 => exact HCh2.out); rintro e_ w17_ ⟨vv0_, rfl, ho0_, hb⟩; refine ⟨_, rfl, ?_⟩; obtain ⟨Ao3_0, co3_0, ev_, hl_, hn_, hF_⟩ := (id ho0_); subst ev_; have HNh3 := Aside0.mk hn_; clear hn_; obtain ⟨ow3, hF2_, hM_⟩ := HM.out.addRo hb hF_; have HRh3 := Aside0.mk hF2_; have HCh3 := Aside0.mk hl_; have n_ := Aside0.mk hM_; clear HM hF_ hF2_ hl_ hM_; have HM := n_; clear n_; clear hb ho0_; obtain ⟨ad3_, hA_⟩ : ∃ a_, Ao3_0 = some a_ := (by have h_ := HNh3.out; have h2_ := NQ3.out; cases Ao3_0 with | none => exact absurd (of_decide_eq_true h_.symm) h2_ | some a_ => exact ⟨a_, rfl⟩); subst hA_))
        go_ret2
        exact ⟨by first | rfl | (simp; done) | (simp only [i64_w]; done) | (simp [i64_w]; done) | (simp [*]; done), HM.out.below⟩
  · replace c2_ := Bool.eq_false_iff.mpr c2_
    subst c2_
    have H1 : (some (0, false)) = some (r1, r2) := by rw [if_neg (show ¬ (false = true) by decide)] at H; exact H
    clear H
    have H := H1
    clear H1
    simp only [Option.some.injEq, Prod.mk.injEq] at H
    obtain ⟨rfl, rfl⟩ := H
    go_enter Try.func28, Try.ntmps28
    go_wp2_with (first | ((with_reducible refine gate_callee (f := 38) rfl ?_); (with_reducible refine gate_dst (N := 6) rfl ?_); refine goesL_ (some 6) rfl rfl Try.func38 (by kernel_rfl) rfl #[.slice A0 l0.length c0] rfl (by (try simp only [List.map_toArray, List.map_cons, List.map_nil]); first | done | rfl | (simp only [List.length_drop, List.length_take]; rfl)) ?_; (with_reducible refine (impl_isWord.calls k _ _ l0 false _ ?sd0 ?sd1 A1_.out).mono ?_); (case sd0 => exact (Kd.C_below HR0.out HM.out.below)); (case sd1 => exact HC0.out); rintro e_ w18_ ⟨rfl, hb⟩; refine ⟨_, rfl, ?_⟩; have n_ := Aside0.mk (HM.out.step hb); clear HM; have HM := n_; clear n_; clear hb))
    go_ret2
    exact ⟨by first | rfl | (simp; done) | (simp only [i64_w]; done) | (simp [i64_w]; done) | (simp [*]; done), HM.out.below⟩

/-! ### impl_FirstCoefficient: function 24 -/
def impl_FirstCoefficient.f (k : Nat) (l0 : List Int) : Option (List Int × Int × Bool) := (impl_isWord.f k l0).bind fun t105 => (if t105 = true then ((impl_coefficientsOf.f k l0).bind fun t106 => ((impl_coefficients_first.f k t106).bind fun t107 => (if t107.length = 0 then (some ([], 0, false)) else ((impl_coefficients_of.f k t106 t107).bind fun t108 => (some (t107, t108, true)))))) else (some ([], 0, false)))
set_option maxHeartbeats 8000000 in
set_option maxRecDepth 100000 in
theorem impl_FirstCoefficient.calls (k : Nat) (A0 : Option Addr) (c0 : Nat) (l0 : List Int) (r1 : List Int) (r2 : Int) (r3 : Bool) (w : World) (hr0 : Kd.C (Kd.int .i64) w A0 l0.length l0) (hc0 : l0.length ≤ c0) (h : impl_FirstCoefficient.f k l0 = some (r1, r2, r3)) :
    Calls Try.prog 24 #[.slice A0 l0.length c0] w fun e w' => ∃ v0_ : Value, e = .returned (.tuple #[v0_, .int .i64 r2, .bool r3]) ∧ RoS (Kd.int .i64) w w' v0_ r1 ∧ Below w.heap.size w w' := by
  have HR0 := Aside0.mk hr0
  have HC0 := Aside0.mk hc0
  clear hr0 hc0
  have qeql22_ : ∀ (W_ : World) (a_ : Option Addr) (n_ c_ n2_ c2_ : Nat), (binOp .eql 22 (.slice a_ n_ c_) (.slice none n2_ c2_)).run Try.prog W_ = .ok (.bool (a_.isNone)) W_ := fun W_ a_ n_ c_ n2_ c2_ => by simp only [binOp]; simp [Op.equal, Op.maxDepth, Lib.run_equalIn_slice_nil W_ 9999 22 3 a_ n_ c_ n2_ c2_ Try.underlying22]
  have qneq22_ : ∀ (W_ : World) (a_ : Option Addr) (n_ c_ n2_ c2_ : Nat), (binOp .neq 22 (.slice a_ n_ c_) (.slice none n2_ c2_)).run Try.prog W_ = .ok (.bool (!a_.isNone)) W_ := fun W_ a_ n_ c_ n2_ c2_ => by simp only [binOp]; simp [Op.equal, Op.maxDepth, Lib.run_equalIn_slice_nil W_ 9999 22 3 a_ n_ c_ n2_ c2_ Try.underlying22]
  have HM := Aside0.mk (MS.start w)
  have H : ((impl_isWord.f k l0).bind fun t105 => (if t105 = true then ((impl_coefficientsOf.f k l0).bind fun t106 => ((impl_coefficients_first.f k t106).bind fun t107 => (if t107.length = 0 then (some ([], 0, false)) else ((impl_coefficients_of.f k t106 t107).bind fun t108 => (some (t107, t108, true)))))) else (some ([], 0, false)))) = some (r1, r2, r3) := h
  clear h
  replace H := Option.bind_eq_some_iff.mp H
  obtain ⟨t105, A1_0, H⟩ := H
  replace H : (if t105 = true then ((impl_coefficientsOf.f k l0).bind fun t106 => ((impl_coefficients_first.f k t106).bind fun t107 => (if t107.length = 0 then (some ([], 0, false)) else ((impl_coefficients_of.f k t106 t107).bind fun t108 => (some (t107, t108, true)))))) else (some ([], 0, false))) = some (r1, r2, r3) := H
  have A1_ := Aside0.mk A1_0
  clear A1_0
  by_cases c2_ : t105 = true
  · subst c2_
    have H1 : ((impl_coefficientsOf.f k l0).bind fun t106 => ((impl_coefficients_first.f k t106).bind fun t107 => (if t107.length = 0 then (some ([], 0, false)) else ((impl_coefficients_of.f k t106 t107).bind fun t108 => (some (t107, t108, true)))))) = some (r1, r2, r3) := by rw [if_pos rfl] at H; exact H
    clear H
    have H := H1
    clear H1
    replace H := Option.bind_eq_some_iff.mp H
    obtain ⟨t106, A3_0, H⟩ := H
    replace H : ((impl_coefficients_first.f k t106).bind fun t107 => (if t107.length = 0 then (some ([], 0, false)) else ((impl_coefficients_of.f k t106 t107).bind fun t108 => (some (t107, t108, true))))) = some (r1, r2, r3) := H
    have A3_ := Aside0.mk A3_0
    clear A3_0
    replace H := Option.bind_eq_some_iff.mp H
    obtain ⟨t107, A4_0, H⟩ := H
    replace H : (if t107.length = 0 then (some ([], 0, false)) else ((impl_coefficients_of.f k t106 t107).bind fun t108 => (some (t107, t108, true)))) = some (r1, r2, r3) := H
    have A4_ := Aside0.mk A4_0
    clear A4_0
    by_cases c5_ : t107.length = 0
    · rw [if_pos c5_] at H
      have NQ2 := Aside0.mk c5_
      clear c5_
      simp only [Option.some.injEq, Prod.mk.injEq] at H
      obtain ⟨rfl, rfl, rfl⟩ := H
      go_enter Try.func24, Try.ntmps24
      go_wp2_with (first | ((with_reducible refine gate_callee (f := 38) rfl ?_); (with_reducible refine gate_dst (N := 8) rfl ?_); refine goesL_ (some 8) rfl rfl Try.func38 (by kernel_rfl) rfl #[.slice A0 l0.length c0] rfl (by (try simp only [List.map_toArray, List.map_cons, List.map_nil]); first | done | rfl | (simp only [List.length_drop, List.length_take]; rfl)) ?_; (with_reducible refine (impl_isWord.calls k _ _ l0 true _ ?sd0 ?sd1 A1_.out).mono ?_); (case sd0 => exact (Kd.C_below HR0.out HM.out.below)); (case sd1 => exact HC0.out); rintro e_ w6_ ⟨rfl, hb⟩; refine ⟨_, rfl, ?_⟩; have n_ := Aside0.mk (HM.out.step hb); clear HM; have HM := n_; clear n_; clear hb) | ((with_reducible refine gate_callee (f := 34) rfl ?_); (with_reducible refine gate_dst (N := 11) rfl ?_); refine goesL_ (some 11) rfl rfl Try.func34 (by kernel_rfl) rfl #[.slice A0 l0.length c0] rfl (by (try simp only [List.map_toArray, List.map_cons, List.map_nil]); first | done | rfl | (simp only [List.length_drop, List.length_take]; rfl)) ?_; (with_reducible refine (impl_coefficientsOf.calls k _ _ l0 t106 _ ?sd0 ?sd1 A3_.out).mono ?_); (case sd0 => exact (Kd.C_below HR0.out HM.out.below)); (case sd1 => exact HC0.out); rintro e_ w7_ ⟨vv0_, rfl, ho0_, hb⟩; refine ⟨_, rfl, ?_⟩; obtain ⟨hl_, gp1_, ev_, hF_⟩ := (id ho0_); subst ev_; obtain ⟨ow1, hF2_, hM_⟩ := HM.out.addRo hb hF_; have HRh1 := Aside0.mk hF2_; have HCh1 := Aside0.mk hl_; have n_ := Aside0.mk hM_; clear HM hF_ hF2_ hl_ hM_; have HM := n_; clear n_; clear hb ho0_) | ((with_reducible refine gate_callee (f := 45) rfl ?_); (with_reducible refine gate_dst (N := 13) rfl ?_); refine goesL_ (some 13) rfl rfl Try.func45 (by kernel_rfl) rfl #[.pointer (some ⟨gp1_, 0, none⟩)] rfl (by (try simp only [List.map_toArray, List.map_cons, List.map_nil]); first | done | rfl | (simp only [List.length_drop, List.length_take]; rfl)) ?_; (with_reducible refine (impl_coefficients_first.calls k _ t106 t107 _ ?sd0 ?sd1 A4_.out).mono ?_); (case sd0 => exact (HM.out.heldC 0 rfl HRh1.out)); (case sd1 => exact HCh1.out); rintro e_ w8_ ⟨vv0_, rfl, ho0_, hb⟩; refine ⟨_, rfl, ?_⟩; obtain ⟨Ao2_0, co2_0, ev_, hl_, hn_, hF_⟩ := (id ho0_); subst ev_; have HNh2 := Aside0.mk hn_; clear hn_; obtain ⟨ow2, hF2_, hM_⟩ := HM.out.addRo hb hF_; have HRh2 := Aside0.mk hF2_; have HCh2 := Aside0.mk hl_; have n_ := Aside0.mk hM_; clear HM hF_ hF2_ hl_ hM_; have HM := n_; clear n_; clear hb ho0_; have hA_ : Ao2_0 = none := (by have h_ := HNh2.out; have h2_ := NQ2.out; cases Ao2_0 with | none => rfl | some a_ => simp [h2_] at h_); subst hA_; have hA_ : t107 = [] := List.length_eq_zero_iff.mp NQ2.out))
      go_ret3
      exact ⟨_, by first | rfl | (simp; done) | (simp only [i64_w]; done) | (simp [i64_w]; done) | (simp [*]; done), RoS.nil, HM.out.below⟩
    · rw [if_neg c5_] at H
      have NQ2 := Aside0.mk c5_
      clear c5_
      replace H := Option.bind_eq_some_iff.mp H
      obtain ⟨t108, A9_0, H⟩ := H
      replace H : (some (t107, t108, true)) = some (r1, r2, r3) := H
      have A9_ := Aside0.mk A9_0
      clear A9_0
      simp only [Option.some.injEq, Prod.mk.injEq] at H
      obtain ⟨rfl, rfl, rfl⟩ := H
      go_enter Try.func24, Try.ntmps24
      go_wp2_with (first | ((with_reducible refine gate_callee (f := 38) rfl ?_); (with_reducible refine gate_dst (N := 8) rfl ?_); refine goesL_ (some 8) rfl rfl Try.func38 (by kernel_rfl) rfl #[.slice A0 l0.length c0] rfl (by (try simp only [List.map_toArray, List.map_cons, List.map_nil]); first | done | rfl | (simp only [List.length_drop, List.length_take]; rfl)) ?_; (with_reducible refine (impl_isWord.calls k _ _ l0 true _ ?sd0 ?sd1 A1_.out).mono ?_); (case sd0 => exact (Kd.C_below HR0.out HM.out.below)); (case sd1 => exact HC0.out); rintro e_ w10_ ⟨rfl, hb⟩; refine ⟨_, rfl, ?_⟩; have n_ := Aside0.mk (HM.out.step hb); clear HM; have HM := n_; clear n_; clear hb) | ((with_reducible refine gate_callee (f := 34) rfl ?_); (with_reducible refine gate_dst (N := 11) rfl ?_); refine goesL_ (some 11) rfl rfl Try.func34 (by kernel_rfl) rfl #[.slice A0 l0.length c0] rfl (by (try simp only [List.map_toArray, List.map_cons, List.map_nil]); first | done | rfl | (simp only [List.length_drop, List.length_take]; rfl)) ?_; (with_reducible refine (impl_coefficientsOf.calls k _ _ l0 t106 _ ?sd0 ?sd1 A3_.out).mono ?_); (case sd0 => exact (Kd.C_below HR0.out HM.out.below)); (case sd1 => exact HC0.out); rintro e_ w11_ ⟨vv0_, rfl, ho0_, hb⟩; refine ⟨_, rfl, ?_⟩; obtain ⟨hl_, gp1_, ev_, hF_⟩ := (id ho0_); subst ev_; obtain ⟨ow1, hF2_, hM_⟩ := HM.out.addRo hb hF_; have HRh1 := Aside0.mk hF2_; have HCh1 := Aside0.mk hl_; have n_ := Aside0.mk hM_; clear HM hF_ hF2_ hl_ hM_; have HM := n_; clear n_; clear hb ho0_) | ((with_reducible refine gate_callee (f := 45) rfl ?_); (with_reducible refine gate_dst (N := 13) rfl ?_); refine goesL_ (some 13) rfl rfl Try.func45 (by kernel_rfl) rfl #[.pointer (some ⟨gp1_, 0, none⟩)] rfl (by (try simp only [List.map_toArray, List.map_cons, List.map_nil]); first | done | rfl | (simp only [List.length_drop, List.length_take]; rfl)) ?_; (with_reducible refine (impl_coefficients_first.calls k _ t106 t107 _ ?sd0 ?sd1 A4_.out).mono ?_); (case sd0 => exact (HM.out.heldC 0 rfl HRh1.out)); (case sd1 => exact HCh1.out); rintro e_ w12_ ⟨vv0_, rfl, ho0_, hb⟩; refine ⟨_, rfl, ?_⟩; obtain ⟨Ao2_0, co2_0, ev_, hl_, hn_, hF_⟩ := (id ho0_); subst ev_; have HNh2 := Aside0.mk hn_; clear hn_; obtain ⟨ow2, hF2_, hM_⟩ := HM.out.addRo hb hF_; have HRh2 := Aside0.mk hF2_; have HCh2 := Aside0.mk hl_; have n_ := Aside0.mk hM_; clear HM hF_ hF2_ hl_ hM_; have HM := n_; clear n_; clear hb ho0_; obtain ⟨ad2_, hA_⟩ : ∃ a_, Ao2_0 = some a_ := (by have h_ := HNh2.out; have h2_ := NQ2.out; cases Ao2_0 with | none => exact absurd (of_decide_eq_true h_.symm) h2_ | some a_ => exact ⟨a_, rfl⟩); subst hA_) | ((with_reducible refine gate_callee (f := 42) rfl ?_); (with_reducible refine gate_dst (N := 19) rfl ?_); refine goesL_ (some 19) rfl rfl Try.func42 (by kernel_rfl) rfl #[.pointer (some ⟨gp1_, 0, none⟩), .slice (some ad2_) t107.length co2_0] rfl (by (try simp only [List.map_toArray, List.map_cons, List.map_nil]); first | done | rfl | (simp only [List.length_drop, List.length_take]; rfl)) ?_; (with_reducible refine (impl_coefficients_of.calls k _ t106 _ _ t107 t108 _ ?sd0 ?sd1 ?sd2 ?sd3 A9_.out).mono ?_); (case sd0 => exact (HM.out.heldC 1 rfl HRh1.out)); (case sd1 => exact HCh1.out); (case sd2 => exact (HM.out.heldC 0 rfl HRh2.out)); (case sd3 => exact HCh2.out); rintro e_ w13_ ⟨rfl, hd_⟩; refine ⟨_, rfl, ?_⟩; have hb := hd_.below; clear hd_; have n_ := Aside0.mk (HM.out.step hb); clear HM; have HM := n_; clear n_; clear hb))
      go_ret3
      exact ⟨_, by first | rfl | (simp; done) | (simp only [i64_w]; done) | (simp [i64_w]; done) | (simp [*]; done), ⟨_, _, rfl, HCh2.out, HM.out.retF 0 rfl HRh2.out⟩, HM.out.below⟩
  · replace c2_ := Bool.eq_false_iff.mpr c2_
    subst c2_
    have H1 : (some ([], 0, false)) = some (r1, r2, r3) := by rw [if_neg (show ¬ (false = true) by decide)] at H; exact H
    clear H
    have H := H1
    clear H1
    simp only [Option.some.injEq, Prod.mk.injEq] at H
    obtain ⟨rfl, rfl, rfl⟩ := H
    go_enter Try.func24, Try.ntmps24
    go_wp2_with (first | ((with_reducible refine gate_callee (f := 38) rfl ?_); (with_reducible refine gate_dst (N := 8) rfl ?_); refine goesL_ (some 8) rfl rfl Try.func38 (by kernel_rfl) rfl #[.slice A0 l0.length c0] rfl (by (try simp only [List.map_toArray, List.map_cons, List.map_nil]); first | done | rfl | (simp only [List.length_drop, List.length_take]; rfl)) ?_; (with_reducible refine (impl_isWord.calls k _ _ l0 false _ ?sd0 ?sd1 A1_.out).mono ?_); (case sd0 => exact (Kd.C_below HR0.out HM.out.below)); (case sd1 => exact HC0.out); rintro e_ w14_ ⟨rfl, hb⟩; refine ⟨_, rfl, ?_⟩; have n_ := Aside0.mk (HM.out.step hb); clear HM; have HM := n_; clear n_; clear hb))
    go_ret3
    exact ⟨_, by first | rfl | (simp; done) | (simp only [i64_w]; done) | (simp [i64_w]; done) | (simp [*]; done), RoS.nil, HM.out.below⟩

end Go.Proofs.Ytblhjcdfccggfaa.Q
