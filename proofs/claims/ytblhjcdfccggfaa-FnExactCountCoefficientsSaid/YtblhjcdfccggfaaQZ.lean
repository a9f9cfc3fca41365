-- Written by a program of this session's own (wip/wgen.py): what functions of the program compute, and that they do.
import Derived.Below
import Derived.Deep.Draws
import Derived.Deep.AppendLies
import Derived.Maps.AppendAt
import Derived.OwnWalk
import Derived.Laws.BytesArg
import Derived.Laws.MakeOwn
import Derived.Laws.OwnMore
import Derived.Deep.OwnRows
import Derived.Tactics
import Derived.Lib.ConvBytes
import Derived.Laws.Slices
import Derived.WalkKit
import Derived.KernelRfl
import Derived.RowKit3
import Derived.Deep.LoopGhost
import Derived.Deep.QuietTactic
import Derived.BigQuiet
import Derived.WideLaws
import Derived.Deep.DeepCutAuto
import Derived.Deep.CutBlock
import Derived.Deep.RegionHeld3
import Derived.Laws.Rows
import Derived.Lib.AppendStr
import Derived.ArgAppend
import Derived.Laws.IdiomCopy
import Derived.OrdersHeld
import Derived.Laws.BitsLemmas
import Derived.RowKit
import Derived.Lib.SliceRun
import Derived.Test.YtblhjcdfccggfaaHM
import Derived.Test.YtblhjcdfccggfaaRG
import Derived.Test.YtblhjcdfccggfaaProg
import Derived.Test.YtblhjcdfccggfaaK1
import Derived.Test.YtblhjcdfccggfaaK2
import Derived.Test.YtblhjcdfccggfaaKL1
import Derived.Test.YtblhjcdfccggfaaQI
import Derived.Test.YtblhjcdfccggfaaQ8
import Derived.Test.YtblhjcdfccggfaaQ9
import Derived.Test.YtblhjcdfccggfaaQL
import Derived.Test.YtblhjcdfccggfaaQV
import Derived.Test.YtblhjcdfccggfaaQU
import Derived.Test.YtblhjcdfccggfaaKT0
import Derived.Test.YtblhjcdfccggfaaKT1
namespace Go.Proofs.Ytblhjcdfccggfaa.Q
open Go.RowKit Go.Proofs.YtblhjcdfccggfaaW.PrintWords Go.Proofs.YtblhjcdfccggfaaW.PrintLast Go.Proofs.YtblhjcdfccggfaaW.PrintMore Go.Proofs.YtblhjcdfccggfaaM Go.Proofs.Ytblhjcdfccggfaa.K Go.Proofs.Ytblhjcdfccggfaa.KL Go.Proofs.Ytblhjcdfccggfaa.KT
attribute [local go_sem] max2_int min2_int max_two min_two max_three min_three max_four min_four
set_option linter.unusedVariables false
set_option linter.unusedSimpArgs false

/-! ### laws_eqIntA4: function 22 -/
def laws_eqIntA4.l0 : Nat → (Int) → (List Int) → (List Int) → Option (Bool)
  | 0, _, _, _ => none
  | k + 1, x5, m2, m1 => if x5 < 4 then (if 0 ≤ x5 then (if (rd m1 x5) = (rd m2 x5) then (laws_eqIntA4.l0 k (wrap64 (x5 + 1)) m2 m1) else (some false)) else (none)) else (some true)
def laws_eqIntA4.f (k : Nat) (l0 : List Int) (l1 : List Int) : Option (Bool) := laws_eqIntA4.l0 k 0 l1 l0
set_option maxHeartbeats 8000000 in
set_option maxRecDepth 100000 in
theorem laws_eqIntA4.calls (k : Nat) (l0 : List Int) (l1 : List Int) (r : Bool) (w : World) (hl0 : l0.length = 4) (hl1 : l1.length = 4) (h : laws_eqIntA4.f k l0 l1 = some r) :
    Calls Try.prog 22 #[.agg (ics l0), .agg (ics l1)] w fun e w' => e = .returned (.bool r) ∧ Below w.heap.size w w' := by
  have HL0 := Aside0.mk hl0
  clear hl0
  have HL1 := Aside0.mk hl1
  clear hl1
  have hu32 := Try.underlying32
  have HM := Aside0.mk (MS.start w)
  have H : (laws_eqIntA4.l0 k 0 l1 l0) = some r := h
  clear h
  have H' := Aside0.mk H
  clear H
  go_enter Try.func22, Try.ntmps22
  go_wp2_with (first | ((with_reducible refine gate_dst (N := 2) rfl ?_); refine box_event ?hg (N := 2) ?hd (cs := (ics l0)) (t := 32) ?hr ?_; (case hd => rfl); (case hg => rfl); (case hr => first | (go_simp; done) | (go_simp; rfl)); intro gb1 hg w1_ hbox hb; have n_ := Aside0.mk (HM.out.addBox hb hbox hg); clear HM; have HM := n_; clear n_; clear hb hbox hg) | ((with_reducible refine gate_dst (N := 3) rfl ?_); refine box_event ?hg (N := 3) ?hd (cs := (ics l1)) (t := 32) ?hr ?_; (case hd => rfl); (case hg => rfl); (case hr => first | (go_simp; done) | (go_simp; rfl)); intro gb2 hg w2_ hbox hb; have n_ := Aside0.mk (HM.out.addBox hb hbox hg); clear HM; have HM := n_; clear n_; clear hb hbox hg))
  go_loopg [5] k (fun kq v5 w' => ∃ (x5_3 : Int), v5 = .int .i64 x5_3 ∧ Aside0 (laws_eqIntA4.l0 kq x5_3 l1 l0 = some r) ∧ Aside0 (kq ≤ k) ∧ Aside0 (MS w w' [.box gb2 32 (ics l1), .box gb1 32 (ics l0)]))
  case atStart => exact ⟨(0), (by first | rfl | (simp; done) | (simp only [i64_w]; done) | (simp [i64_w]; done) | (simp [*]; done)), H', ⟨Nat.le_refl _⟩, HM⟩
  case round =>
    clear H'
    clear HM
    obtain ⟨x5_3, rfl, HA, HK4_, HM⟩ := hrel
    cases gk with
    | zero => exact absurd HA.out (by simp [laws_eqIntA4.l0])
    | succ k5_ =>
      have H := HA.out
      clear HA
      simp only [laws_eqIntA4.l0] at H
      by_cases c6_ : x5_3 < 4
      · rw [if_pos c6_] at H
        have c6_b0 : decide (x5_3 < 4) = true := decide_eq_true c6_
        clear c6_
        by_cases c7_ : 0 ≤ x5_3
        · rw [if_pos c7_] at H
          have c7_b0 : decide (0 ≤ x5_3) = true := decide_eq_true c7_
          clear c7_
          by_cases c8_ : (rd l0 x5_3) = (rd l1 x5_3)
          · rw [if_pos c8_] at H
            have c8_b0 : ((rd l0 x5_3) == (rd l1 x5_3)) = true := beq_iff_eq.mpr c8_
            have c8_b1 : ((rd l0 x5_3) != (rd l1 x5_3)) = false := bne_eq_false_iff_eq.mpr c8_
            clear c8_
            have H' := Aside0.mk H
            clear H
            go_wp2
            have p101 : 0 ≤ (x5_3 : Int) := of_decide_eq_true (by first | (with_reducible assumption) | assumption)
            have q101 : (x5_3 : Int) < 4 := of_decide_eq_true (by first | (with_reducible assumption) | assumption)
            have hx101 := icell (HM.out.box 1 rfl) x5_3 p101 (by have := HL0.out; omega)
            replace p101 := eq_true p101
            replace q101 := eq_true q101
            have p102 : 0 ≤ (x5_3 : Int) := of_decide_eq_true (by first | (with_reducible assumption) | assumption)
            have q102 : (x5_3 : Int) < 4 := of_decide_eq_true (by first | (with_reducible assumption) | assumption)
            have hx102 := icell (HM.out.box 0 rfl) x5_3 p102 (by have := HL1.out; omega)
            replace p102 := eq_true p102
            replace q102 := eq_true q102
            go_quiet (fail)
            generalize hw : World.drewN _ _ = w9_
            have n_ := Aside0.mk (HM.out.step (show Below _ _ w9_ from hw ▸ pw_below_drewN (Below.refl _ _) _))
            clear HM hw
            have HM := n_
            clear n_
            go_wp2
            go_roundg k5_
            case measure => have hHK4__ := HK4_.out; omega
            case rel => exact ⟨(wrap64 (x5_3 + 1)), (by first | rfl | (simp; done) | (simp only [i64_w]; done) | (simp [i64_w]; done) | (simp [*]; done)), H', ⟨by have hHK4__ := HK4_.out; omega⟩, HM⟩
          · rw [if_neg c8_] at H
            have c8_b0 : ((rd l0 x5_3) == (rd l1 x5_3)) = false := beq_eq_false_iff_ne.mpr c8_
            have c8_b1 : ((rd l0 x5_3) != (rd l1 x5_3)) = true := bne_iff_ne.mpr c8_
            clear c8_
            obtain rfl := Option.some.inj H
            go_wp2
            have p101 : 0 ≤ (x5_3 : Int) := of_decide_eq_true (by first | (with_reducible assumption) | assumption)
            have q101 : (x5_3 : Int) < 4 := of_decide_eq_true (by first | (with_reducible assumption) | assumption)
            have hx101 := icell (HM.out.box 1 rfl) x5_3 p101 (by have := HL0.out; omega)
            replace p101 := eq_true p101
            replace q101 := eq_true q101
            have p102 : 0 ≤ (x5_3 : Int) := of_decide_eq_true (by first | (with_reducible assumption) | assumption)
            have q102 : (x5_3 : Int) < 4 := of_decide_eq_true (by first | (with_reducible assumption) | assumption)
            have hx102 := icell (HM.out.box 0 rfl) x5_3 p102 (by have := HL1.out; omega)
            replace p102 := eq_true p102
            replace q102 := eq_true q102
            go_quiet (fail)
            generalize hw : World.drewN _ _ = w10_
            have n_ := Aside0.mk (HM.out.step (show Below _ _ w10_ from hw ▸ pw_below_drewN (Below.refl _ _) _))
            clear HM hw
            have HM := n_
            clear n_
            go_wp2
            go_ret
            exact ⟨by first | rfl | (simp; done) | (simp only [i64_w]; done) | (simp [i64_w]; done) | (simp [*]; done), HM.out.below⟩
        · rw [if_neg c7_] at H
          have c7_b0 : decide (0 ≤ x5_3) = false := decide_eq_false c7_
          clear c7_
          exact absurd H (by simp)
      · rw [if_neg c6_] at H
        have c6_b0 : decide (x5_3 < 4) = false := decide_eq_false c6_
        clear c6_
        obtain rfl := Option.some.inj H
        go_wp2
        go_ret
        exact ⟨by first | rfl | (simp; done) | (simp only [i64_w]; done) | (simp [i64_w]; done) | (simp [*]; done), HM.out.below⟩

/-! ### laws_FnExactCountCoefficients: function 7 -/
def laws_FnExactCountCoefficients.f (k : Nat) (l0 : List Int) : Option (Bool) := if (l0.length : Int) > 1048576 then (some true) else ((laws_toIntS.f k l0).bind fun t103 => ((spec_CountCoefficients.f k t103).bind fun bt104 => ((laws_toIntS.f k l0).bind fun t106 => ((impl_CountCoefficients.f k t106).bind fun bt107 => ((laws_eqIntA4.f k bt107.1 bt104.1).bind fun t109 => (if t109 = true then (if (bt107.2 != bt104.2) = true then (some false) else ((laws_toIntS.f k l0).bind fun t110 => ((laws_eqIntS.f k t106 t110).bind fun t111 => (if t111 = true then (some true) else (some false))))) else (some false)))))))
set_option maxHeartbeats 8000000 in
set_option maxRecDepth 100000 in
theorem laws_FnExactCountCoefficients.calls (k : Nat) (A0 : Option Addr) (c0 : Nat) (l0 : List Int) (r : Bool) (w : World) (hr0 : Kd.C (Kd.int .i64) w A0 l0.length l0) (hc0 : l0.length ≤ c0) (h : laws_FnExactCountCoefficients.f k l0 = some r) :
    Calls Try.prog 7 #[.slice A0 l0.length c0] w fun e w' => e = .returned (.bool r) ∧ Below w.heap.size w w' := by
  have HR0 := Aside0.mk hr0
  have HC0 := Aside0.mk hc0
  clear hr0 hc0
  have hu32 := Try.underlying32
  have HM := Aside0.mk (MS.start w)
  have H : (if (l0.length : Int) > 1048576 then (some true) else ((laws_toIntS.f k l0).bind fun t103 => ((spec_CountCoefficients.f k t103).bind fun bt104 => ((laws_toIntS.f k l0).bind fun t106 => ((impl_CountCoefficients.f k t106).bind fun bt107 => ((laws_eqIntA4.f k bt107.1 bt104.1).bind fun t109 => (if t109 = true then (if (bt107.2 != bt104.2) = true then (some false) else ((laws_toIntS.f k l0).bind fun t110 => ((laws_eqIntS.f k t106 t110).bind fun t111 => (if t111 = true then (some true) else (some false))))) else (some false)))))))) = some r := h
  clear h
  by_cases c1_ : (l0.length : Int) > 1048576
  · rw [if_pos c1_] at H
    have c1_b0 : decide (1048576 < (l0.length : Int)) = true := decide_eq_true c1_
    have c1_b1 : decide (1048576 < l0.length) = true := decide_eq_true (by omega)
    clear c1_
    obtain rfl := Option.some.inj H
    go_enter Try.func7, Try.ntmps7
    go_wp2
    go_ret
    exact ⟨by first | rfl | (simp; done) | (simp only [i64_w]; done) | (simp [i64_w]; done) | (simp [*]; done), HM.out.below⟩
  · rw [if_neg c1_] at H
    have c1_b0 : decide (1048576 < (l0.length : Int)) = false := decide_eq_false c1_
    have c1_b1 : decide (1048576 < l0.length) = false := decide_eq_false (by omega)
    clear c1_
    replace H := Option.bind_eq_some_iff.mp H
    obtain ⟨t103, A2_0, H⟩ := H
    replace H : ((spec_CountCoefficients.f k t103).bind fun bt104 => ((laws_toIntS.f k l0).bind fun t106 => ((impl_CountCoefficients.f k t106).bind fun bt107 => ((laws_eqIntA4.f k bt107.1 bt104.1).bind fun t109 => (if t109 = true then (if (bt107.2 != bt104.2) = true then (some false) else ((laws_toIntS.f k l0).bind fun t110 => ((laws_eqIntS.f k t106 t110).bind fun t111 => (if t111 = true then (some true) else (some false))))) else (some false)))))) = some r := H
    have A2_ := Aside0.mk A2_0
    clear A2_0
    replace H := Option.bind_eq_some_iff.mp H
    obtain ⟨⟨t104, t105⟩, A3_0, H⟩ := H
    replace H : ((laws_toIntS.f k l0).bind fun t106 => ((impl_CountCoefficients.f k t106).bind fun bt107 => ((laws_eqIntA4.f k bt107.1 t104).bind fun t109 => (if t109 = true then (if (bt107.2 != t105) = true then (some false) else ((laws_toIntS.f k l0).bind fun t110 => ((laws_eqIntS.f k t106 t110).bind fun t111 => (if t111 = true then (some true) else (some false))))) else (some false))))) = some r := H
    have A3_ := Aside0.mk A3_0
    clear A3_0
    replace H := Option.bind_eq_some_iff.mp H
    obtain ⟨t106, A4_0, H⟩ := H
    replace H : ((impl_CountCoefficients.f k t106).bind fun bt107 => ((laws_eqIntA4.f k bt107.1 t104).bind fun t109 => (if t109 = true then (if (bt107.2 != t105) = true then (some false) else ((laws_toIntS.f k l0).bind fun t110 => ((laws_eqIntS.f k t106 t110).bind fun t111 => (if t111 = true then (some true) else (some false))))) else (some false)))) = some r := H
    have A4_ := Aside0.mk A4_0
    clear A4_0
    replace H := Option.bind_eq_some_iff.mp H
    obtain ⟨⟨t107, t108⟩, A5_0, H⟩ := H
    replace H : ((laws_eqIntA4.f k t107 t104).bind fun t109 => (if t109 = true then (if (t108 != t105) = true then (some false) else ((laws_toIntS.f k l0).bind fun t110 => ((laws_eqIntS.f k t106 t110).bind fun t111 => (if t111 = true then (some true) else (some false))))) else (some false))) = some r := H
    have A5_ := Aside0.mk A5_0
    clear A5_0
    replace H := Option.bind_eq_some_iff.mp H
    obtain ⟨t109, A6_0, H⟩ := H
    replace H : (if t109 = true then (if (t108 != t105) = true then (some false) else ((laws_toIntS.f k l0).bind fun t110 => ((laws_eqIntS.f k t106 t110).bind fun t111 => (if t111 = true then (some true) else (some false))))) else (some false)) = some r := H
    have A6_ := Aside0.mk A6_0
    clear A6_0
    by_cases c7_ : t109 = true
    · subst c7_
      have H1 : (if (t108 != t105) = true then (some false) else ((laws_toIntS.f k l0).bind fun t110 => ((laws_eqIntS.f k t106 t110).bind fun t111 => (if t111 = true then (some true) else (some false))))) = some r := by rw [if_pos rfl] at H; exact H
      clear H
      have H := H1
      clear H1
      by_cases c8_ : (t108 != t105) = true
      · rw [if_pos c8_] at H
        have c8_b0 : (t108 != t105) = true := by simpa using c8_
        have c8_b1 : (t108 == t105) = false := by simpa using c8_
        have c8_b2 : (t108 = t105) = False := eq_false (by simpa using c8_)
        clear c8_
        obtain rfl := Option.some.inj H
        go_enter Try.func7, Try.ntmps7
        go_wp2_with (first | ((with_reducible refine gate_callee (f := 11) rfl ?_); (with_reducible refine gate_dst (N := 13) rfl ?_); refine goesL_ (some 13) rfl rfl Try.func11 (by kernel_rfl) rfl #[.slice A0 l0.length c0] rfl (by (try simp only [List.map_toArray, List.map_cons, List.map_nil]); first | done | rfl | (simp only [List.length_drop, List.length_take]; rfl)) ?_; (with_reducible refine (laws_toIntS.calls k _ _ l0 t103 _ ?sd0 ?sd1 A2_.out).mono ?_); (case sd0 => exact (Kd.C_below HR0.out HM.out.below)); (case sd1 => exact HC0.out); rintro e_ w9_ ⟨vv0_, rfl, ho0_, hb⟩; refine ⟨_, rfl, ?_⟩; obtain ⟨Ao1_0, co1_0, ev_⟩ := Kd.R_slice ho0_; subst ev_; have n_ := Aside0.mk (HM.out.addR hb ho0_); clear HM; have HM := n_; clear n_; clear hb ho0_) | ((with_reducible refine gate_callee (f := 20) rfl ?_); (with_reducible refine gate_dst (N := 14) rfl ?_); refine goesL_ (some 14) rfl rfl Try.func20 (by kernel_rfl) rfl #[.slice Ao1_0 t103.length co1_0] rfl (by (try simp only [List.map_toArray, List.map_cons, List.map_nil]); first | done | rfl | (simp only [List.length_drop, List.length_take]; rfl)) ?_; (with_reducible refine (spec_CountCoefficients.calls k _ _ t103 t104 t105 _ ?sd0 ?sd1 A3_.out).mono ?_); (case sd0 => exact (Kd.R_reads' (HM.out.R (h1 := fun _ => rfl) 0 rfl)).2.2); (case sd1 => exact (Kd.R_reads' (HM.out.R (h1 := fun _ => rfl) 0 rfl)).2.1); rintro e_ w10_ ⟨rfl, ho0_, hb⟩; refine ⟨_, rfl, ?_⟩; have HLt104 := Aside0.mk ho0_; have n_ := Aside0.mk (HM.out.step hb); clear HM; have HM := n_; clear n_; clear hb ho0_) | ((with_reducible refine gate_dst (N := 3) rfl ?_); refine box_event ?hg (N := 3) ?hd (cs := (ics (List.replicate 4 0))) (t := 32) ?hr ?_; (case hd => rfl); (case hg => rfl); (case hr => first | (go_simp; done) | (go_simp; rfl)); intro gb2 hg w11_ hbox hb; have n_ := Aside0.mk (HM.out.addBox hb hbox hg); clear HM; have HM := n_; clear n_; clear hb hbox hg) | ((with_reducible refine gate_store (t := 32) (p := 3) rfl ?_); refine wpList_store_row rfl _ _ _ rfl gb2 (ics t104) rfl rfl 32 (ics (List.replicate 4 0)) (HM.out.box 0 rfl) (by rw [ics_size, HLt104.out]; kernel_rfl) ((ics_size _).trans (((List.length_replicate)).trans ((show _ = 4 from HLt104.out).symm.trans (ics_size _).symm))) (ics_one _) ?_; generalize hw : World.setRow _ _ _ = w12_; have n_ : Aside0 (MS w w12_ [.box gb2 32 (ics t104), .row 3 (.slice Ao1_0 t103.length co1_0) (encs (Value.int .i64) t103)]) := ⟨by rw [← hw]; exact HM.out.setRow 0 rfl _⟩; clear HM hw; have HM := n_; clear n_) | ((with_reducible refine gate_callee (f := 11) rfl ?_); (with_reducible refine gate_dst (N := 18) rfl ?_); refine goesL_ (some 18) rfl rfl Try.func11 (by kernel_rfl) rfl #[.slice A0 l0.length c0] rfl (by (try simp only [List.map_toArray, List.map_cons, List.map_nil]); first | done | rfl | (simp only [List.length_drop, List.length_take]; rfl)) ?_; (with_reducible refine (laws_toIntS.calls k _ _ l0 t106 _ ?sd0 ?sd1 A4_.out).mono ?_); (case sd0 => exact (Kd.C_below HR0.out HM.out.below)); (case sd1 => exact HC0.out); rintro e_ w13_ ⟨vv0_, rfl, ho0_, hb⟩; refine ⟨_, rfl, ?_⟩; obtain ⟨Ao3_0, co3_0, ev_⟩ := Kd.R_slice ho0_; subst ev_; have n_ := Aside0.mk (HM.out.addR hb ho0_); clear HM; have HM := n_; clear n_; clear hb ho0_) | ((with_reducible refine gate_callee (f := 21) rfl ?_); (with_reducible refine gate_dst (N := 21) rfl ?_); refine goesL_ (some 21) rfl rfl Try.func21 (by kernel_rfl) rfl #[.slice Ao3_0 t106.length co3_0] rfl (by (try simp only [List.map_toArray, List.map_cons, List.map_nil]); first | done | rfl | (simp only [List.length_drop, List.length_take]; rfl)) ?_; (with_reducible refine (impl_CountCoefficients.calls k _ _ t106 t107 t108 _ ?sd0 ?sd1 A5_.out).mono ?_); (case sd0 => exact (Kd.R_reads' (HM.out.R (h1 := fun _ => rfl) 0 rfl)).2.2); (case sd1 => exact (Kd.R_reads' (HM.out.R (h1 := fun _ => rfl) 0 rfl)).2.1); rintro e_ w14_ ⟨rfl, ho0_, hb⟩; refine ⟨_, rfl, ?_⟩; have HLt107 := Aside0.mk ho0_; have n_ := Aside0.mk (HM.out.step hb); clear HM; have HM := n_; clear n_; clear hb ho0_) | ((with_reducible refine gate_dst (N := 6) rfl ?_); refine box_event ?hg (N := 6) ?hd (cs := (ics (List.replicate 4 0))) (t := 32) ?hr ?_; (case hd => rfl); (case hg => rfl); (case hr => first | (go_simp; done) | (go_simp; rfl)); intro gb4 hg w15_ hbox hb; have n_ := Aside0.mk (HM.out.addBox hb hbox hg); clear HM; have HM := n_; clear n_; clear hb hbox hg) | ((with_reducible refine gate_store (t := 32) (p := 6) rfl ?_); refine wpList_store_row rfl _ _ _ rfl gb4 (ics t107) rfl rfl 32 (ics (List.replicate 4 0)) (HM.out.box 0 rfl) (by rw [ics_size, HLt107.out]; kernel_rfl) ((ics_size _).trans (((List.length_replicate)).trans ((show _ = 4 from HLt107.out).symm.trans (ics_size _).symm))) (ics_one _) ?_; generalize hw : World.setRow _ _ _ = w16_; have n_ : Aside0 (MS w w16_ [.box gb4 32 (ics t107), .row 3 (.slice Ao3_0 t106.length co3_0) (encs (Value.int .i64) t106), .box gb2 32 (ics t104), .row 3 (.slice Ao1_0 t103.length co1_0) (encs (Value.int .i64) t103)]) := ⟨by rw [← hw]; exact HM.out.setRow 0 rfl _⟩; clear HM hw; have HM := n_; clear n_) | ((with_reducible refine gate_dst (N := 24) rfl ?_); refine wpList_load_row rfl _ _ rfl gb4 rfl 32 (ics t107) (0, 0) _ (HM.out.box 0 rfl) Try.underlying32 rfl (by rw [ics_size, HLt107.out]; kernel_rfl) ?_) | ((with_reducible refine gate_dst (N := 25) rfl ?_); refine wpList_load_row rfl _ _ rfl gb2 rfl 32 (ics t104) (0, 0) _ (HM.out.box 2 rfl) Try.underlying32 rfl (by rw [ics_size, HLt104.out]; kernel_rfl) ?_) | ((with_reducible refine gate_callee (f := 22) rfl ?_); (with_reducible refine gate_dst (N := 26) rfl ?_); refine goesL_ (some 26) rfl rfl Try.func22 (by kernel_rfl) rfl #[.agg (ics t107), .agg (ics t104)] rfl (by (try simp only [List.map_toArray, List.map_cons, List.map_nil]); first | done | rfl | (simp only [List.length_drop, List.length_take]; rfl)) ?_; (with_reducible refine (laws_eqIntA4.calls k t107 t104 true _ ?sd0 ?sd1 A6_.out).mono ?_); (case sd0 => exact HLt107.out); (case sd1 => exact HLt104.out); rintro e_ w17_ ⟨rfl, hb⟩; refine ⟨_, rfl, ?_⟩; have n_ := Aside0.mk (HM.out.step hb); clear HM; have HM := n_; clear n_; clear hb))
        go_ret
        exact ⟨by first | rfl | (simp; done) | (simp only [i64_w]; done) | (simp [i64_w]; done) | (simp [*]; done), HM.out.below⟩
      · rw [if_neg c8_] at H
        have c8_b0 : (t108 != t105) = false := by simpa using c8_
        have c8_b1 : (t108 == t105) = true := by simpa using c8_
        have c8_b2 : (t108 = t105) = True := eq_true (by simpa using c8_)
        clear c8_
        replace H := Option.bind_eq_some_iff.mp H
        obtain ⟨t110, A18_0, H⟩ := H
        replace H : ((laws_eqIntS.f k t106 t110).bind fun t111 => (if t111 = true then (some true) else (some false))) = some r := H
        have A18_ := Aside0.mk A18_0
        clear A18_0
        replace H := Option.bind_eq_some_iff.mp H
        obtain ⟨t111, A19_0, H⟩ := H
        replace H : (if t111 = true then (some true) else (some false)) = some r := H
        have A19_ := Aside0.mk A19_0
        clear A19_0
        by_cases c20_ : t111 = true
        · subst c20_
          have H1 : (some true) = some r := by rw [if_pos rfl] at H; exact H
          clear H
          have H := H1
          clear H1
          obtain rfl := Option.some.inj H
          go_enter Try.func7, Try.ntmps7
          go_wp2_with (first | ((with_reducible refine gate_callee (f := 11) rfl ?_); (with_reducible refine gate_dst (N := 13) rfl ?_); refine goesL_ (some 13) rfl rfl Try.func11 (by kernel_rfl) rfl #[.slice A0 l0.length c0] rfl (by (try simp only [List.map_toArray, List.map_cons, List.map_nil]); first | done | rfl | (simp only [List.length_drop, List.length_take]; rfl)) ?_; (with_reducible refine (laws_toIntS.calls k _ _ l0 t103 _ ?sd0 ?sd1 A2_.out).mono ?_); (case sd0 => exact (Kd.C_below HR0.out HM.out.below)); (case sd1 => exact HC0.out); rintro e_ w21_ ⟨vv0_, rfl, ho0_, hb⟩; refine ⟨_, rfl, ?_⟩; obtain ⟨Ao1_0, co1_0, ev_⟩ := Kd.R_slice ho0_; subst ev_; have n_ := Aside0.mk (HM.out.addR hb ho0_); clear HM; have HM := n_; clear n_; clear hb ho0_) | ((with_reducible refine gate_callee (f := 20) rfl ?_); (with_reducible refine gate_dst (N := 14) rfl ?_); refine goesL_ (some 14) rfl rfl Try.func20 (by kernel_rfl) rfl #[.slice Ao1_0 t103.length co1_0] rfl (by (try simp only [List.map_toArray, List.map_cons, List.map_nil]); first | done | rfl | (simp only [List.length_drop, List.length_take]; rfl)) ?_; (with_reducible refine (spec_CountCoefficients.calls k _ _ t103 t104 t105 _ ?sd0 ?sd1 A3_.out).mono ?_); (case sd0 => exact (Kd.R_reads' (HM.out.R (h1 := fun _ => rfl) 0 rfl)).2.2); (case sd1 => exact (Kd.R_reads' (HM.out.R (h1 := fun _ => rfl) 0 rfl)).2.1); rintro e_ w22_ ⟨rfl, ho0_, hb⟩; refine ⟨_, rfl, ?_⟩; have HLt104 := Aside0.mk ho0_; have n_ := Aside0.mk (HM.out.step hb); clear HM; have HM := n_; clear n_; clear hb ho0_) | ((with_reducible refine gate_dst (N := 3) rfl ?_); refine box_event ?hg (N := 3) ?hd (cs := (ics (List.replicate 4 0))) (t := 32) ?hr ?_; (case hd => rfl); (case hg => rfl); (case hr => first | (go_simp; done) | (go_simp; rfl)); intro gb2 hg w23_ hbox hb; have n_ := Aside0.mk (HM.out.addBox hb hbox hg); clear HM; have HM := n_; clear n_; clear hb hbox hg) | ((with_reducible refine gate_store (t := 32) (p := 3) rfl ?_); refine wpList_store_row rfl _ _ _ rfl gb2 (ics t104) rfl rfl 32 (ics (List.replicate 4 0)) (HM.out.box 0 rfl) (by rw [ics_size, HLt104.out]; kernel_rfl) ((ics_size _).trans (((List.length_replicate)).trans ((show _ = 4 from HLt104.out).symm.trans (ics_size _).symm))) (ics_one _) ?_; generalize hw : World.setRow _ _ _ = w24_; have n_ : Aside0 (MS w w24_ [.box gb2 32 (ics t104), .row 3 (.slice Ao1_0 t103.length co1_0) (encs (Value.int .i64) t103)]) := ⟨by rw [← hw]; exact HM.out.setRow 0 rfl _⟩; clear HM hw; have HM := n_; clear n_) | ((with_reducible refine gate_callee (f := 11) rfl ?_); (with_reducible refine gate_dst (N := 18) rfl ?_); refine goesL_ (some 18) rfl rfl Try.func11 (by kernel_rfl) rfl #[.slice A0 l0.length c0] rfl (by (try simp only [List.map_toArray, List.map_cons, List.map_nil]); first | done | rfl | (simp only [List.length_drop, List.length_take]; rfl)) ?_; (with_reducible refine (laws_toIntS.calls k _ _ l0 t106 _ ?sd0 ?sd1 A4_.out).mono ?_); (case sd0 => exact (Kd.C_below HR0.out HM.out.below)); (case sd1 => exact HC0.out); rintro e_ w25_ ⟨vv0_, rfl, ho0_, hb⟩; refine ⟨_, rfl, ?_⟩; obtain ⟨Ao3_0, co3_0, ev_⟩ := Kd.R_slice ho0_; subst ev_; have n_ := Aside0.mk (HM.out.addR hb ho0_); clear HM; have HM := n_; clear n_; clear hb ho0_) | ((with_reducible refine gate_callee (f := 21) rfl ?_); (with_reducible refine gate_dst (N := 21) rfl ?_); refine goesL_ (some 21) rfl rfl Try.func21 (by kernel_rfl) rfl #[.slice Ao3_0 t106.length co3_0] rfl (by (try simp only [List.map_toArray, List.map_cons, List.map_nil]); first | done | rfl | (simp only [List.length_drop, List.length_take]; rfl)) ?_; (with_reducible refine (impl_CountCoefficients.calls k _ _ t106 t107 t108 _ ?sd0 ?sd1 A5_.out).mono ?_); (case sd0 => exact (Kd.R_reads' (HM.out.R (h1 := fun _ => rfl) 0 rfl)).2.2); (case sd1 => exact (Kd.R_reads' (HM.out.R (h1 := fun _ => rfl) 0 rfl)).2.1); rintro e_ w26_ ⟨rfl, ho0_, hb⟩; refine ⟨_, rfl, ?_⟩; have HLt107 := Aside0.mk ho0_; have n_ := Aside0.mk (HM.out.step hb); clear HM; have HM := n_; clear n_; clear hb ho0_) | ((with_reducible refine gate_dst (N := 6) rfl ?_); refine box_event ?hg (N := 6) ?hd (cs := (ics (List.replicate 4 0))) (t := 32) ?hr ?_; (case hd => rfl); (case hg => rfl); (case hr => first | (go_simp; done) | (go_simp; rfl)); intro gb4 hg w27_ hbox hb; have n_ := Aside0.mk (HM.out.addBox hb hbox hg); clear HM; have HM := n_; clear n_; clear hb hbox hg) | ((with_reducible refine gate_store (t := 32) (p := 6) rfl ?_); refine wpList_store_row rfl _ _ _ rfl gb4 (ics t107) rfl rfl 32 (ics (List.replicate 4 0)) (HM.out.box 0 rfl) (by rw [ics_size, HLt107.out]; kernel_rfl) ((ics_size _).trans (((List.length_replicate)).trans ((show _ = 4 from HLt107.out).symm.trans (ics_size _).symm))) (ics_one _) ?_; generalize hw : World.setRow _ _ _ = w28_; have n_ : Aside0 (MS w w28_ [.box gb4 32 (ics t107), .row 3 (.slice Ao3_0 t106.length co3_0) (encs (Value.int .i64) t106), .box gb2 32 (ics t104), .row 3 (.slice Ao1_0 t103.length co1_0) (encs (Value.int .i64) t103)]) := ⟨by rw [← hw]; exact HM.out.setRow 0 rfl _⟩; clear HM hw; have HM := n_; clear n_) | ((with_reducible refine gate_dst (N := 24) rfl ?_); refine wpList_load_row rfl _ _ rfl gb4 rfl 32 (ics t107) (0, 0) _ (HM.out.box 0 rfl) Try.underlying32 rfl (by rw [ics_size, HLt107.out]; kernel_rfl) ?_) | ((with_reducible refine gate_dst (N := 25) rfl ?_); refine wpList_load_row rfl _ _ rfl gb2 rfl 32 (ics t104) (0, 0) _ (HM.out.box 2 rfl) Try.underlying32 rfl (by rw [ics_size, HLt104.out]; kernel_rfl) ?_) | ((with_reducible refine gate_callee (f := 22) rfl ?_); (with_reducible refine gate_dst (N := 26) rfl ?_); refine goesL_ (some 26) rfl rfl Try.func22 (by kernel_rfl) rfl #[.agg (ics t107), .agg (ics t104)] rfl (by (try simp only [List.map_toArray, List.map_cons, List.map_nil]); first | done | rfl | (simp only [List.length_drop, List.length_take]; rfl)) ?_; (with_reducible refine (laws_eqIntA4.calls k t107 t104 true _ ?sd0 ?sd1 A6_.out).mono ?_); (case sd0 => exact HLt107.out); (case sd1 => exact HLt104.out); rintro e_ w29_ ⟨rfl, hb⟩; refine ⟨_, rfl, ?_⟩; have n_ := Aside0.mk (HM.out.step hb); clear HM; have HM := n_; clear n_; clear hb) | ((with_reducible refine gate_callee (f := 11) rfl ?_); (with_reducible refine gate_dst (N := 35) rfl ?_); refine goesL_ (some 35) rfl rfl Try.func11 (by kernel_rfl) rfl #[.slice A0 l0.length c0] rfl (by (try simp only [List.map_toArray, List.map_cons, List.map_nil]); first | done | rfl | (simp only [List.length_drop, List.length_take]; rfl)) ?_; (with_reducible refine (laws_toIntS.calls k _ _ l0 t110 _ ?sd0 ?sd1 A18_.out).mono ?_); (case sd0 => exact (Kd.C_below HR0.out HM.out.below)); (case sd1 => exact HC0.out); rintro e_ w30_ ⟨vv0_, rfl, ho0_, hb⟩; refine ⟨_, rfl, ?_⟩; obtain ⟨Ao5_0, co5_0, ev_⟩ := Kd.R_slice ho0_; subst ev_; have n_ := Aside0.mk (HM.out.addR hb ho0_); clear HM; have HM := n_; clear n_; clear hb ho0_) | ((with_reducible refine gate_callee (f := 13) rfl ?_); (with_reducible refine gate_dst (N := 36) rfl ?_); refine goesL_ (some 36) rfl rfl Try.func13 (by kernel_rfl) rfl #[.slice Ao3_0 t106.length co3_0, .slice Ao5_0 t110.length co5_0] rfl (by (try simp only [List.map_toArray, List.map_cons, List.map_nil]); first | done | rfl | (simp only [List.length_drop, List.length_take]; rfl)) ?_; (with_reducible refine (laws_eqIntS.calls k _ _ t106 _ _ t110 true _ ?sd0 ?sd1 ?sd2 ?sd3 A19_.out).mono ?_); (case sd0 => exact (Kd.R_reads' (HM.out.R (h1 := fun _ => rfl) 2 rfl)).2.2); (case sd1 => exact (Kd.R_reads' (HM.out.R (h1 := fun _ => rfl) 2 rfl)).2.1); (case sd2 => exact (Kd.R_reads' (HM.out.R (h1 := fun _ => rfl) 0 rfl)).2.2); (case sd3 => exact (Kd.R_reads' (HM.out.R (h1 := fun _ => rfl) 0 rfl)).2.1); rintro e_ w31_ ⟨rfl, hd_⟩; refine ⟨_, rfl, ?_⟩; have hb := hd_.below; clear hd_; have n_ := Aside0.mk (HM.out.step hb); clear HM; have HM := n_; clear n_; clear hb))
          go_ret
          exact ⟨by first | rfl | (simp; done) | (simp only [i64_w]; done) | (simp [i64_w]; done) | (simp [*]; done), HM.out.below⟩
        · replace c20_ := Bool.eq_false_iff.mpr c20_
          subst c20_
          have H1 : (some false) = some r := by rw [if_neg (show ¬ (false = true) by decide)] at H; exact H
          clear H
          have H := H1
          clear H1
          obtain rfl := Option.some.inj H
          go_enter Try.func7, Try.ntmps7
          go_wp2_with (first | ((with_reducible refine gate_callee (f := 11) rfl ?_); (with_reducible refine gate_dst (N := 13) rfl ?_); refine goesL_ (some 13) rfl rfl Try.func11 (by kernel_rfl) rfl #[.slice A0 l0.length c0] rfl (by (try simp only [List.map_toArray, List.map_cons, List.map_nil]); first | done | rfl | (simp only [List.length_drop, List.length_take]; rfl)) ?_; (with_reducible refine (laws_toIntS.calls k _ _ l0 t103 _ ?sd0 ?sd1 A2_.out).mono ?_); (case sd0 => exact (Kd.C_below HR0.out HM.out.below)); (case sd1 => exact HC0.out); rintro e_ w32_ ⟨vv0_, rfl, ho0_, hb⟩; refine ⟨_, rfl, ?_⟩; obtain ⟨Ao1_0, co1_0, ev_⟩ := Kd.R_slice ho0_; subst ev_; have n_ := Aside0.mk (HM.out.addR hb ho0_); clear HM; have HM := n_; clear n_; clear hb ho0_) | ((with_reducible refine gate_callee (f := 20) rfl ?_); (with_reducible refine gate_dst (N := 14) rfl ?_); refine goesL_ (some 14) rfl rfl Try.func20 (by kernel_rfl) rfl #[.slice Ao1_0 t103.length co1_0] rfl (by (try simp only [List.map_toArray, List.map_cons, List.map_nil]); first | done | rfl | (simp only [List.length_drop, List.length_take]; rfl)) ?_; (with_reducible refine (spec_CountCoefficients.calls k _ _ t103 t104 t105 _ ?sd0 ?sd1 A3_.out).mono ?_); (case sd0 => exact (Kd.R_reads' (HM.out.R (h1 := fun _ => rfl) 0 rfl)).2.2); (case sd1 => exact (Kd.R_reads' (HM.out.R (h1 := fun _ => rfl) 0 rfl)).2.1); rintro e_ w33_ ⟨rfl, ho0_, hb⟩; refine ⟨_, rfl, ?_⟩; have HLt104 := Aside0.mk ho0_; have n_ := Aside0.mk (HM.out.step hb); clear HM; have HM := n_; clear n_; clear hb ho0_) | ((with_reducible refine gate_dst (N := 3) rfl ?_); refine box_event ?hg (N := 3) ?hd (cs := (ics (List.replicate 4 0))) (t := 32) ?hr ?_; (case hd => rfl); (case hg => rfl); (case hr => first | (go_simp; done) | (go_simp; rfl)); intro gb2 hg w34_ hbox hb; have n_ := Aside0.mk (HM.out.addBox hb hbox hg); clear HM; have HM := n_; clear n_; clear hb hbox hg) | ((with_reducible refine gate_store (t := 32) (p := 3) rfl ?_); refine wpList_store_row rfl _ _ _ rfl gb2 (ics t104) rfl rfl 32 (ics (List.replicate 4 0)) (HM.out.box 0 rfl) (by rw [ics_size, HLt104.out]; kernel_rfl) ((ics_size _).trans (((List.length_replicate)).trans ((show _ = 4 from HLt104.out).symm.trans (ics_size _).symm))) (ics_one _) ?_; generalize hw : World.setRow _ _ _ = w35_; have n_ : Aside0 (MS w w35_ [.box gb2 32 (ics t104), .row 3 (.slice Ao1_0 t103.length co1_0) (encs (Value.int .i64) t103)]) := ⟨by rw [← hw]; exact HM.out.setRow 0 rfl _⟩; clear HM hw; have HM := n_; clear n_) | ((with_reducible refine gate_callee (f := 11) rfl ?_); (with_reducible refine gate_dst (N := 18) rfl ?_); refine goesL_ (some 18) rfl rfl Try.func11 (by kernel_rfl) rfl #[.slice A0 l0.length c0] rfl (by (try simp only [List.map_toArray, List.map_cons, List.map_nil]); first | done | rfl | (simp only [List.length_drop, List.length_take]; rfl)) ?_; (with_reducible refine (laws_toIntS.calls k _ _ l0 t106 _ ?sd0 ?sd1 A4_.out).mono ?_); (case sd0 => exact (Kd.C_below HR0.out HM.out.below)); (case sd1 => exact HC0.out); rintro e_ w36_ ⟨vv0_, rfl, ho0_, hb⟩; refine ⟨_, rfl, ?_⟩; obtain ⟨Ao3_0, co3_0, ev_⟩ := Kd.R_slice ho0_; subst ev_; have n_ := Aside0.mk (HM.out.addR hb ho0_); clear HM; have HM := n_; clear n_; clear hb ho0_) | ((with_reducible refine gate_callee (f := 21) rfl ?_); (with_reducible refine gate_dst (N := 21) rfl ?_); refine goesL_ (some 21) rfl rfl Try.func21 (by kernel_rfl) rfl #[.slice Ao3_0 t106.length co3_0] rfl (by (try simp only [List.map_toArray, List.map_cons, List.map_nil]); first | done | rfl | (simp only [List.length_drop, List.length_take]; rfl)) ?_; (with_reducible refine (impl_CountCoefficients.calls k _ _ t106 t107 t108 _ ?sd0 ?sd1 A5_.out).mono ?_); (case sd0 => exact (Kd.R_reads' (HM.out.R (h1 := fun _ => rfl) 0 rfl)).2.2); (case sd1 => exact (Kd.R_reads' (HM.out.R (h1 := fun _ => rfl) 0 rfl)).2.1); rintro e_ w37_ ⟨rfl, ho0_, hb⟩; refine ⟨_, rfl, ?_⟩; have HLt107 := Aside0.mk ho0_; have n_ := Aside0.mk (HM.out.step hb); clear HM; have HM := n_; clear n_; clear hb ho0_) | ((with_reducible refine gate_dst (N := 6) rfl ?_); refine box_event ?hg (N := 6) ?hd (cs := (ics (List.replicate 4 0))) (t := 32) ?hr ?_; (case hd => rfl); (case hg => rfl); (case hr => first | (go_simp; done) | (go_simp; rfl)); intro gb4 hg w38_ hbox hb; have n_ := Aside0.mk (HM.out.addBox hb hbox hg); clear HM; have HM := n_; clear n_; clear hb hbox hg) | ((with_reducible refine gate_store (t := 32) (p := 6) rfl ?_); refine wpList_store_row rfl _ _ _ rfl gb4 (ics t107) rfl rfl 32 (ics (List.replicate 4 0)) (HM.out.box 0 rfl) (by rw [ics_size, HLt107.out]; kernel_rfl) ((ics_size _).trans (((List.length_replicate)).trans ((show _ = 4 from HLt107.out).symm.trans (ics_size _).symm))) (ics_one _) ?_; generalize hw : World.setRow _ _ _ = w39_; have n_ : Aside0 (MS w w39_ [.box gb4 32 (ics t107), .row 3 (.slice Ao3_0 t106.length co3_0) (encs (Value.int .i64) t106), .box gb2 32 (ics t104), .row 3 (.slice Ao1_0 t103.length co1_0) (encs (Value.int .i64) t103)]) := ⟨by rw [← hw]; exact HM.out.setRow 0 rfl _⟩; clear HM hw; have HM := n_; clear n_) | ((with_reducible refine gate_dst (N := 24) rfl ?_); refine wpList_load_row rfl _ _ rfl gb4 rfl 32 (ics t107) (0, 0) _ (HM.out.box 0 rfl) Try.underlying32 rfl (by rw [ics_size, HLt107.out]; kernel_rfl) ?_) | ((with_reducible refine gate_dst (N := 25) rfl ?_); refine wpList_load_row rfl _ _ rfl gb2 rfl 32 (ics t104) (0, 0) _ (HM.out.box 2 rfl) Try.underlying32 rfl (by rw [ics_size, HLt104.out]; kernel_rfl) ?_) | ((with_reducible refine gate_callee (f := 22) rfl ?_); (with_reducible refine gate_dst (N := 26) rfl ?_); refine goesL_ (some 26) rfl rfl Try.func22 (by kernel_rfl) rfl #[.agg (ics t107), .agg (ics t104)] rfl (by (try simp only [List.map_toArray, List.map_cons, List.map_nil]); first | done | rfl | (simp only [List.length_drop, List.length_take]; rfl)) ?_; (with_reducible refine (laws_eqIntA4.calls k t107 t104 true _ ?sd0 ?sd1 A6_.out).mono ?_); (case sd0 => exact HLt107.out); (case sd1 => exact HLt104.out); rintro e_ w40_ ⟨rfl, hb⟩; refine ⟨_, rfl, ?_⟩; have n_ := Aside0.mk (HM.out.step hb); clear HM; have HM := n_; clear n_; clear hb) | ((with_reducible refine gate_callee (f := 11) rfl ?_); (with_reducible refine gate_dst (N := 35) rfl ?_); refine goesL_ (some 35) rfl rfl Try.func11 (by kernel_rfl) rfl #[.slice A0 l0.length c0] rfl (by (try simp only [List.map_toArray, List.map_cons, List.map_nil]); first | done | rfl | (simp only [List.length_drop, List.length_take]; rfl)) ?_; (with_reducible refine (laws_toIntS.calls k _ _ l0 t110 _ ?sd0 ?sd1 A18_.out).mono ?_); (case sd0 => exact (Kd.C_below HR0.out HM.out.below)); (case sd1 => exact HC0.out); rintro e_ w41_ ⟨vv0_, rfl, ho0_, hb⟩; refine ⟨_, rfl, ?_⟩; obtain ⟨Ao5_0, co5_0, ev_⟩ := Kd.R_slice ho0_; subst ev_; have n_ := Aside0.mk (HM.out.addR hb ho0_); clear HM; have HM := n_; clear n_; clear hb ho0_) | ((with_reducible refine gate_callee (f := 13) rfl ?_); (with_reducible refine gate_dst (N := 36) rfl ?_); refine goesL_ (some 36) rfl rfl Try.func13 (by kernel_rfl) rfl #[.slice Ao3_0 t106.length co3_0, .slice Ao5_0 t110.length co5_0] rfl (by (try simp only [List.map_toArray, List.map_cons, List.map_nil]); first | done | rfl | (simp only [List.length_drop, List.length_take]; rfl)) ?_; (with_reducible refine (laws_eqIntS.calls k _ _ t106 _ _ t110 false _ ?sd0 ?sd1 ?sd2 ?sd3 A19_.out).mono ?_); (case sd0 => exact (Kd.R_reads' (HM.out.R (h1 := fun _ => rfl) 2 rfl)).2.2); (case sd1 => exact (Kd.R_reads' (HM.out.R (h1 := fun _ => rfl) 2 rfl)).2.1); (case sd2 => exact (Kd.R_reads' (HM.out.R (h1 := fun _ => rfl) 0 rfl)).2.2); (case sd3 => exact (Kd.R_reads' (HM.out.R (h1 := fun _ => rfl) 0 rfl)).2.1); rintro e_ w42_ ⟨rfl, hd_⟩; refine ⟨_, rfl, ?_⟩; have hb := hd_.below; clear hd_; have n_ := Aside0.mk (HM.out.step hb); clear HM; have HM := n_; clear n_; clear hb))
          go_ret
          exact ⟨by first | rfl | (simp; done) | (simp only [i64_w]; done) | (simp [i64_w]; done) | (simp [*]; done), HM.out.below⟩
    · replace c7_ := Bool.eq_false_iff.mpr c7_
      subst c7_
      have H1 : (some false) = some r := by rw [if_neg (show ¬ (false = true) by decide)] at H; exact H
      clear H
      have H := H1
      clear H1
      obtain rfl := Option.some.inj H
      go_enter Try.func7, Try.ntmps7
      go_wp2_with (first | ((with_reducible refine gate_callee (f := 11) rfl ?_); (with_reducible refine gate_dst (N := 13) rfl ?_); refine goesL_ (some 13) rfl rfl Try.func11 (by kernel_rfl) rfl #[.slice A0 l0.length c0] rfl (by (try simp only [List.map_toArray, List.map_cons, List.map_nil]); first | done | rfl | (simp only [List.length_drop, List.length_take]; rfl)) ?_; (with_reducible refine (laws_toIntS.calls k _ _ l0 t103 _ ?sd0 ?sd1 A2_.out).mono ?_); (case sd0 => exact (Kd.C_below HR0.out HM.out.below)); (case sd1 => exact HC0.out); rintro e_ w43_ ⟨vv0_, rfl, ho0_, hb⟩; refine ⟨_, rfl, ?_⟩; obtain ⟨Ao1_0, co1_0, ev_⟩ := Kd.R_slice ho0_; subst ev_; have n_ := Aside0.mk (HM.out.addR hb ho0_); clear HM; have HM := n_; clear n_; clear hb ho0_) | ((with_reducible refine gate_callee (f := 20) rfl ?_); (with_reducible refine gate_dst (N := 14) rfl ?_); refine goesL_ (some 14) rfl rfl Try.func20 (by kernel_rfl) rfl #[.slice Ao1_0 t103.length co1_0] rfl (by (try simp only [List.map_toArray, List.map_cons, List.map_nil]); first | done | rfl | (simp only [List.length_drop, List.length_take]; rfl)) ?_; (with_reducible refine (spec_CountCoefficients.calls k _ _ t103 t104 t105 _ ?sd0 ?sd1 A3_.out).mono ?_); (case sd0 => exact (Kd.R_reads' (HM.out.R (h1 := fun _ => rfl) 0 rfl)).2.2); (case sd1 => exact (Kd.R_reads' (HM.out.R (h1 := fun _ => rfl) 0 rfl)).2.1); rintro e_ w44_ ⟨rfl, ho0_, hb⟩; refine ⟨_, rfl, ?_⟩; have HLt104 := Aside0.mk ho0_; have n_ := Aside0.mk (HM.out.step hb); clear HM; have HM := n_; clear n_; clear hb ho0_) | ((with_reducible refine gate_dst (N := 3) rfl ?_); refine box_event ?hg (N := 3) ?hd (cs := (ics (List.replicate 4 0))) (t := 32) ?hr ?_; (case hd => rfl); (case hg => rfl); (case hr => first | (go_simp; done) | (go_simp; rfl)); intro gb2 hg w45_ hbox hb; have n_ := Aside0.mk (HM.out.addBox hb hbox hg); clear HM; have HM := n_; clear n_; clear hb hbox hg) | ((with_reducible refine gate_store (t := 32) (p := 3) rfl ?_); refine wpList_store_row rfl _ _ _ rfl gb2 (ics t104) rfl rfl 32 (ics (List.replicate 4 0)) (HM.out.box 0 rfl) (by rw [ics_size, HLt104.out]; kernel_rfl) ((ics_size _).trans (((List.length_replicate)).trans ((show _ = 4 from HLt104.out).symm.trans (ics_size _).symm))) (ics_one _) ?_; generalize hw : World.setRow _ _ _ = w46_; have n_ : Aside0 (MS w w46_ [.box gb2 32 (ics t104), .row 3 (.slice Ao1_0 t103.length co1_0) (encs (Value.int .i64) t103)]) := ⟨by rw [← hw]; exact HM.out.setRow 0 rfl _⟩; clear HM hw; have HM := n_; clear n_) | ((with_reducible refine gate_callee (f := 11) rfl ?_); (with_reducible refine gate_dst (N := 18) rfl ?_); refine goesL_ (some 18) rfl rfl Try.func11 (by kernel_rfl) rfl #[.slice A0 l0.length c0] rfl (by (try simp only [List.map_toArray, List.map_cons, List.map_nil]); first | done | rfl | (simp only [List.length_drop, List.length_take]; rfl)) ?_; (with_reducible refine (laws_toIntS.calls k _ _ l0 t106 _ ?sd0 ?sd1 A4_.out).mono ?_); (case sd0 => exact (Kd.C_below HR0.out HM.out.below)); (case sd1 => exact HC0.out); rintro e_ w47_ ⟨vv0_, rfl, ho0_, hb⟩; refine ⟨_, rfl, ?_⟩; obtain ⟨Ao3_0, co3_0, ev_⟩ := Kd.R_slice ho0_; subst ev_; have n_ := Aside0.mk (HM.out.addR hb ho0_); clear HM; have HM := n_; clear n_; clear hb ho0_) | ((with_reducible refine gate_callee (f := 21) rfl ?_); (with_reducible refine gate_dst (N := 21) rfl ?_); refine goesL_ (some 21) rfl rfl Try.func21 (by kernel_rfl) rfl #[.slice Ao3_0 t106.length co3_0] rfl (by (try simp only [List.map_toArray, List.map_cons, List.map_nil]); first | done | rfl | (simp only [List.length_drop, List.length_take]; rfl)) ?_; (with_reducible refine (impl_CountCoefficients.calls k _ _ t106 t107 t108 _ ?sd0 ?sd1 A5_.out).mono ?_); (case sd0 => exact (Kd.R_reads' (HM.out.R (h1 := fun _ => rfl) 0 rfl)).2.2); (case sd1 => exact (Kd.R_reads' (HM.out.R (h1 := fun _ => rfl) 0 rfl)).2.1); rintro e_ w48_ ⟨rfl, ho0_, hb⟩; refine ⟨_, rfl, ?_⟩; have HLt107 := Aside0.mk ho0_; have n_ := Aside0.mk (HM.out.step hb); clear HM; have HM := n_; clear n_; clear hb ho0_) | ((with_reducible refine gate_dst (N := 6) rfl ?_); refine box_event ?hg (N := 6) ?hd (cs := (ics (List.replicate 4 0))) (t := 32) ?hr ?_; (case hd => rfl); (case hg => rfl); (case hr => first | (go_simp; done) | (go_simp; rfl)); intro gb4 hg w49_ hbox hb; have n_ := Aside0.mk (HM.out.addBox hb hbox hg); clear HM; have HM := n_; clear n_; clear hb hbox hg) | ((with_reducible refine gate_store (t := 32) (p := 6) rfl ?_); refine wpList_store_row rfl _ _ _ rfl gb4 (ics t107) rfl rfl 32 (ics (List.replicate 4 0)) (HM.out.box 0 rfl) (by rw [ics_size, HLt107.out]; kernel_rfl) ((ics_size _).trans (((List.length_replicate)).trans ((show _ = 4 from HLt107.out).symm.trans (ics_size _).symm))) (ics_one _) ?_; generalize hw : World.setRow _ _ _ = w50_; have n_ : Aside0 (MS w w50_ [.box gb4 32 (ics t107), .row 3 (.slice Ao3_0 t106.length co3_0) (encs (Value.int .i64) t106), .box gb2 32 (ics t104), .row 3 (.slice Ao1_0 t103.length co1_0) (encs (Value.int .i64) t103)]) := ⟨by rw [← hw]; exact HM.out.setRow 0 rfl _⟩; clear HM hw; have HM := n_; clear n_) | ((with_reducible refine gate_dst (N := 24) rfl ?_); refine wpList_load_row rfl _ _ rfl gb4 rfl 32 (ics t107) (0, 0) _ (HM.out.box 0 rfl) Try.underlying32 rfl (by rw [ics_size, HLt107.out]; kernel_rfl) ?_) | ((with_reducible refine gate_dst (N := 25) rfl ?_); refine wpList_load_row rfl _ _ rfl gb2 rfl 32 (ics t104) (0, 0) _ (HM.out.box 2 rfl) Try.underlying32 rfl (by rw [ics_size, HLt104.out]; kernel_rfl) ?_) | ((with_reducible refine gate_callee (f := 22) rfl ?_); (with_reducible refine gate_dst (N := 26) rfl ?_); refine goesL_ (some 26) rfl rfl Try.func22 (by kernel_rfl) rfl #[.agg (ics t107), .agg (ics t104)] rfl (by (try simp only [List.map_toArray, List.map_cons, List.map_nil]); first | done | rfl | (simp only [List.length_drop, List.length_take]; rfl)) ?_; (with_reducible refine (laws_eqIntA4.calls k t107 t104 false _ ?sd0 ?sd1 A6_.out).mono ?_); (case sd0 => exact HLt107.out); (case sd1 => exact HLt104.out); rintro e_ w51_ ⟨rfl, hb⟩; refine ⟨_, rfl, ?_⟩; have n_ := Aside0.mk (HM.out.step hb); clear HM; have HM := n_; clear n_; clear hb))
      go_ret
      exact ⟨by first | rfl | (simp; done) | (simp only [i64_w]; done) | (simp [i64_w]; done) | (simp [*]; done), HM.out.below⟩

end Go.Proofs.Ytblhjcdfccggfaa.Q
