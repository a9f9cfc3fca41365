-- Written by a program of this session's own (wip/wgen.py): what functions of the program compute, and that they do.
import Derived.Below
import Derived.Deep.Draws
import Derived.Deep.AppendLies
import Derived.Maps.AppendAt
import Derived.OwnWalk
import Derived.Laws.BytesArg
import Derived.Laws.MakeOwn
import Derived.Laws.OwnMore
import Derived.Deep.OwnRows
import Derived.Tactics
import Derived.Lib.ConvBytes
import Derived.Laws.Slices
import Derived.WalkKit
import Derived.KernelRfl
import Derived.RowKit3
import Derived.Deep.LoopGhost
import Derived.Deep.QuietTactic
import Derived.BigQuiet
import Derived.WideLaws
import Derived.Deep.DeepCutAuto
import Derived.Deep.CutBlock
import Derived.Deep.RegionHeld3
import Derived.Laws.Rows
import Derived.Lib.AppendStr
import Derived.ArgAppend
import Derived.Laws.IdiomCopy
import Derived.OrdersHeld
import Derived.Laws.BitsLemmas
import Derived.RowKit
import Derived.Test.YtajphpfbihilmaaHM
import Derived.Test.YtajphpfbihilmaaRG
import Derived.Test.YtajphpfbihilmaaProg
import Derived.Test.YtajphpfbihilmaaK1
import Derived.Test.YtajphpfbihilmaaKL1
import Derived.Test.YtajphpfbihilmaaQI
import Derived.Test.YtajphpfbihilmaaQ8
import Derived.Test.YtajphpfbihilmaaQW
namespace Go.Proofs.Ytajphpfbihilmaa.Q
open Go.RowKit Go.Proofs.YtajphpfbihilmaaW.PrintWords Go.Proofs.YtajphpfbihilmaaW.PrintLast Go.Proofs.YtajphpfbihilmaaW.PrintMore Go.Proofs.YtajphpfbihilmaaM Go.Proofs.Ytajphpfbihilmaa.K Go.Proofs.Ytajphpfbihilmaa.KL
attribute [local go_sem] max2_int min2_int max_two min_two max_three min_three max_four min_four
set_option linter.unusedVariables false
set_option linter.unusedSimpArgs false

/-! ### laws_eqIntA7: function 23 -/
def laws_eqIntA7.l0 : Nat → (Int) → (List Int) → (List Int) → Option (Bool)
  | 0, _, _, _ => none
  | k + 1, x5, m2, m1 => if x5 < 7 then (if 0 ≤ x5 then (if (rd m1 x5) = (rd m2 x5) then (laws_eqIntA7.l0 k (wrap64 (x5 + 1)) m2 m1) else (some false)) else (none)) else (some true)
def laws_eqIntA7.f (k : Nat) (l0 : List Int) (l1 : List Int) : Option (Bool) := laws_eqIntA7.l0 k 0 l1 l0
set_option maxHeartbeats 8000000 in
set_option maxRecDepth 100000 in
theorem laws_eqIntA7.calls (k : Nat) (l0 : List Int) (l1 : List Int) (r : Bool) (w : World) (hl0 : l0.length = 7) (hl1 : l1.length = 7) (h : laws_eqIntA7.f k l0 l1 = some r) :
    Calls Try.prog 23 #[.agg (ics l0), .agg (ics l1)] w fun e w' => e = .returned (.bool r) ∧ Below w.heap.size w w' := by
  have HL0 := Aside0.mk hl0
  clear hl0
  have HL1 := Aside0.mk hl1
  clear hl1
  have hu35 := Try.underlying35
  have HM := Aside0.mk (MS.start w)
  have H : (laws_eqIntA7.l0 k 0 l1 l0) = some r := h
  clear h
  have H' := Aside0.mk H
  clear H
  go_enter Try.func23, Try.ntmps23
  go_wp2_with (first | ((with_reducible refine gate_dst (N := 2) rfl ?_); refine box_event ?hg (N := 2) ?hd (cs := (ics l0)) (t := 35) ?hr ?_; (case hd => rfl); (case hg => rfl); (case hr => first | (go_simp; done) | (go_simp; rfl)); intro gb1 hg w1_ hbox hb; have n_ := Aside0.mk (HM.out.addBox hb hbox hg); clear HM; have HM := n_; clear n_; clear hb hbox hg) | ((with_reducible refine gate_dst (N := 3) rfl ?_); refine box_event ?hg (N := 3) ?hd (cs := (ics l1)) (t := 35) ?hr ?_; (case hd => rfl); (case hg => rfl); (case hr => first | (go_simp; done) | (go_simp; rfl)); intro gb2 hg w2_ hbox hb; have n_ := Aside0.mk (HM.out.addBox hb hbox hg); clear HM; have HM := n_; clear n_; clear hb hbox hg))
  go_loopg [5] k (fun kq v5 w' => ∃ (x5_3 : Int), v5 = .int .i64 x5_3 ∧ Aside0 (laws_eqIntA7.l0 kq x5_3 l1 l0 = some r) ∧ Aside0 (kq ≤ k) ∧ Aside0 (MS w w' [.box gb2 35 (ics l1), .box gb1 35 (ics l0)]))
  case atStart => exact ⟨(0), (by first | rfl | (simp; done) | (simp [*]; done)), H', ⟨Nat.le_refl _⟩, HM⟩
  case round =>
    clear H'
    clear HM
    obtain ⟨x5_3, rfl, HA, HK4_, HM⟩ := hrel
    cases gk with
    | zero => exact absurd HA.out (by simp [laws_eqIntA7.l0])
    | succ k5_ =>
      have H := HA.out
      clear HA
      simp only [laws_eqIntA7.l0] at H
      by_cases c6_ : x5_3 < 7
      · rw [if_pos c6_] at H
        have c6_b0 : decide (x5_3 < 7) = true := decide_eq_true c6_
        clear c6_
        by_cases c7_ : 0 ≤ x5_3
        · rw [if_pos c7_] at H
          have c7_b0 : decide (0 ≤ x5_3) = true := decide_eq_true c7_
          clear c7_
          by_cases c8_ : (rd l0 x5_3) = (rd l1 x5_3)
          · rw [if_pos c8_] at H
            have c8_b0 : ((rd l0 x5_3) == (rd l1 x5_3)) = true := beq_iff_eq.mpr c8_
            have c8_b1 : ((rd l0 x5_3) != (rd l1 x5_3)) = false := bne_eq_false_iff_eq.mpr c8_
            clear c8_
            have H' := Aside0.mk H
            clear H
            go_wp2
            have p148 : 0 ≤ (x5_3 : Int) := of_decide_eq_true (by first | (with_reducible assumption) | assumption)
            have q148 : (x5_3 : Int) < 7 := of_decide_eq_true (by first | (with_reducible assumption) | assumption)
            have hx148 := icell (HM.out.box 1 rfl) x5_3 p148 (by have := HL0.out; omega)
            replace p148 := eq_true p148
            replace q148 := eq_true q148
            have p149 : 0 ≤ (x5_3 : Int) := of_decide_eq_true (by first | (with_reducible assumption) | assumption)
            have q149 : (x5_3 : Int) < 7 := of_decide_eq_true (by first | (with_reducible assumption) | assumption)
            have hx149 := icell (HM.out.box 0 rfl) x5_3 p149 (by have := HL1.out; omega)
            replace p149 := eq_true p149
            replace q149 := eq_true q149
            go_quiet (fail)
            generalize hw : World.drewN _ _ = w9_
            have n_ := Aside0.mk (HM.out.step (show Below _ _ w9_ from hw ▸ pw_below_drewN (Below.refl _ _) _))
            clear HM hw
            have HM := n_
            clear n_
            go_wp2
            go_roundg k5_
            case measure => have hHK4__ := HK4_.out; omega
            case rel => exact ⟨(wrap64 (x5_3 + 1)), (by first | rfl | (simp; done) | (simp [*]; done)), H', ⟨by have hHK4__ := HK4_.out; omega⟩, HM⟩
          · rw [if_neg c8_] at H
            have c8_b0 : ((rd l0 x5_3) == (rd l1 x5_3)) = false := beq_eq_false_iff_ne.mpr c8_
            have c8_b1 : ((rd l0 x5_3) != (rd l1 x5_3)) = true := bne_iff_ne.mpr c8_
            clear c8_
            obtain rfl := Option.some.inj H
            go_wp2
            have p148 : 0 ≤ (x5_3 : Int) := of_decide_eq_true (by first | (with_reducible assumption) | assumption)
            have q148 : (x5_3 : Int) < 7 := of_decide_eq_true (by first | (with_reducible assumption) | assumption)
            have hx148 := icell (HM.out.box 1 rfl) x5_3 p148 (by have := HL0.out; omega)
            replace p148 := eq_true p148
            replace q148 := eq_true q148
            have p149 : 0 ≤ (x5_3 : Int) := of_decide_eq_true (by first | (with_reducible assumption) | assumption)
            have q149 : (x5_3 : Int) < 7 := of_decide_eq_true (by first | (with_reducible assumption) | assumption)
            have hx149 := icell (HM.out.box 0 rfl) x5_3 p149 (by have := HL1.out; omega)
            replace p149 := eq_true p149
            replace q149 := eq_true q149
            go_quiet (fail)
            generalize hw : World.drewN _ _ = w10_
            have n_ := Aside0.mk (HM.out.step (show Below _ _ w10_ from hw ▸ pw_below_drewN (Below.refl _ _) _))
            clear HM hw
            have HM := n_
            clear n_
            go_wp2
            go_ret
            exact ⟨by first | rfl | (simp; done) | (simp [*]; done), HM.out.below⟩
        · rw [if_neg c7_] at H
          have c7_b0 : decide (0 ≤ x5_3) = false := decide_eq_false c7_
          clear c7_
          exact absurd H (by simp)
      · rw [if_neg c6_] at H
        have c6_b0 : decide (x5_3 < 7) = false := decide_eq_false c6_
        clear c6_
        obtain rfl := Option.some.inj H
        go_wp2
        go_ret
        exact ⟨by first | rfl | (simp; done) | (simp [*]; done), HM.out.below⟩

/-! ### laws_FnExactWindingsOf: function 7 -/
def laws_FnExactWindingsOf.f (k : Nat) (l0 : List Int) : Option (Bool) := if (l0.length : Int) > 1048576 then (some true) else ((laws_toIntS.f k l0).bind fun t150 => ((spec_WindingsOf.f k t150).bind fun bt151 => ((laws_toIntS.f k l0).bind fun t153 => ((impl_WindingsOf.f k t153).bind fun bt154 => ((laws_eqIntA7.f k bt154.1 bt151.1).bind fun t156 => (if t156 = true then (if (bt154.2 != bt151.2) = true then (some false) else ((laws_toIntS.f k l0).bind fun t157 => ((laws_eqIntS.f k t153 t157).bind fun t158 => (if t158 = true then (some true) else (some false))))) else (some false)))))))
set_option maxHeartbeats 8000000 in
set_option maxRecDepth 100000 in
theorem laws_FnExactWindingsOf.calls (k : Nat) (A0 : Option Addr) (c0 : Nat) (l0 : List Int) (r : Bool) (w : World) (hr0 : Kd.C (Kd.int .i64) w A0 l0.length l0) (hc0 : l0.length ≤ c0) (h : laws_FnExactWindingsOf.f k l0 = some r) :
    Calls Try.prog 7 #[.slice A0 l0.length c0] w fun e w' => e = .returned (.bool r) ∧ Below w.heap.size w w' := by
  have HR0 := Aside0.mk hr0
  have HC0 := Aside0.mk hc0
  clear hr0 hc0
  have hu35 := Try.underlying35
  have HM := Aside0.mk (MS.start w)
  have H : (if (l0.length : Int) > 1048576 then (some true) else ((laws_toIntS.f k l0).bind fun t150 => ((spec_WindingsOf.f k t150).bind fun bt151 => ((laws_toIntS.f k l0).bind fun t153 => ((impl_WindingsOf.f k t153).bind fun bt154 => ((laws_eqIntA7.f k bt154.1 bt151.1).bind fun t156 => (if t156 = true then (if (bt154.2 != bt151.2) = true then (some false) else ((laws_toIntS.f k l0).bind fun t157 => ((laws_eqIntS.f k t153 t157).bind fun t158 => (if t158 = true then (some true) else (some false))))) else (some false)))))))) = some r := h
  clear h
  by_cases c1_ : (l0.length : Int) > 1048576
  · rw [if_pos c1_] at H
    have c1_b0 : decide (1048576 < (l0.length : Int)) = true := decide_eq_true c1_
    have c1_b1 : decide (1048576 < l0.length) = true := decide_eq_true (by omega)
    clear c1_
    obtain rfl := Option.some.inj H
    go_enter Try.func7, Try.ntmps7
    go_wp2
    go_ret
    exact ⟨by first | rfl | (simp; done) | (simp [*]; done), HM.out.below⟩
  · rw [if_neg c1_] at H
    have c1_b0 : decide (1048576 < (l0.length : Int)) = false := decide_eq_false c1_
    have c1_b1 : decide (1048576 < l0.length) = false := decide_eq_false (by omega)
    clear c1_
    replace H := Option.bind_eq_some_iff.mp H
    obtain ⟨t150, A2_0, H⟩ := H
    replace H : ((spec_WindingsOf.f k t150).bind fun bt151 => ((laws_toIntS.f k l0).bind fun t153 => ((impl_WindingsOf.f k t153).bind fun bt154 => ((laws_eqIntA7.f k bt154.1 bt151.1).bind fun t156 => (if t156 = true then (if (bt154.2 != bt151.2) = true then (some false) else ((laws_toIntS.f k l0).bind fun t157 => ((laws_eqIntS.f k t153 t157).bind fun t158 => (if t158 = true then (some true) else (some false))))) else (some false)))))) = some r := H
    have A2_ := Aside0.mk A2_0
    clear A2_0
    replace H := Option.bind_eq_some_iff.mp H
    obtain ⟨⟨t151, t152⟩, A3_0, H⟩ := H
    replace H : ((laws_toIntS.f k l0).bind fun t153 => ((impl_WindingsOf.f k t153).bind fun bt154 => ((laws_eqIntA7.f k bt154.1 t151).bind fun t156 => (if t156 = true then (if (bt154.2 != t152) = true then (some false) else ((laws_toIntS.f k l0).bind fun t157 => ((laws_eqIntS.f k t153 t157).bind fun t158 => (if t158 = true then (some true) else (some false))))) else (some false))))) = some r := H
    have A3_ := Aside0.mk A3_0
    clear A3_0
    replace H := Option.bind_eq_some_iff.mp H
    obtain ⟨t153, A4_0, H⟩ := H
    replace H : ((impl_WindingsOf.f k t153).bind fun bt154 => ((laws_eqIntA7.f k bt154.1 t151).bind fun t156 => (if t156 = true then (if (bt154.2 != t152) = true then (some false) else ((laws_toIntS.f k l0).bind fun t157 => ((laws_eqIntS.f k t153 t157).bind fun t158 => (if t158 = true then (some true) else (some false))))) else (some false)))) = some r := H
    have A4_ := Aside0.mk A4_0
    clear A4_0
    replace H := Option.bind_eq_some_iff.mp H
    obtain ⟨⟨t154, t155⟩, A5_0, H⟩ := H
    replace H : ((laws_eqIntA7.f k t154 t151).bind fun t156 => (if t156 = true then (if (t155 != t152) = true then (some false) else ((laws_toIntS.f k l0).bind fun t157 => ((laws_eqIntS.f k t153 t157).bind fun t158 => (if t158 = true then (some true) else (some false))))) else (some false))) = some r := H
    have A5_ := Aside0.mk A5_0
    clear A5_0
    replace H := Option.bind_eq_some_iff.mp H
    obtain ⟨t156, A6_0, H⟩ := H
    replace H : (if t156 = true then (if (t155 != t152) = true then (some false) else ((laws_toIntS.f k l0).bind fun t157 => ((laws_eqIntS.f k t153 t157).bind fun t158 => (if t158 = true then (some true) else (some false))))) else (some false)) = some r := H
    have A6_ := Aside0.mk A6_0
    clear A6_0
    by_cases c7_ : t156 = true
    · subst c7_
      have H1 : (if (t155 != t152) = true then (some false) else ((laws_toIntS.f k l0).bind fun t157 => ((laws_eqIntS.f k t153 t157).bind fun t158 => (if t158 = true then (some true) else (some false))))) = some r := by rw [if_pos rfl] at H; exact H
      clear H
      have H := H1
      clear H1
      by_cases c8_ : (t155 != t152) = true
      · rw [if_pos c8_] at H
        have c8_b0 : (t155 != t152) = true := by simpa using c8_
        have c8_b1 : (t155 == t152) = false := by simpa using c8_
        have c8_b2 : (t155 = t152) = False := eq_false (by simpa using c8_)
        clear c8_
        obtain rfl := Option.some.inj H
        go_enter Try.func7, Try.ntmps7
        go_wp2_with (first | ((with_reducible refine gate_callee (f := 19) rfl ?_); (with_reducible refine gate_dst (N := 13) rfl ?_); refine goesL_ (some 13) rfl rfl Try.func19 (by kernel_rfl) rfl #[.slice A0 l0.length c0] rfl (by (try simp only [List.map_toArray, List.map_cons, List.map_nil]); first | done | rfl | (simp only [List.length_drop, List.length_take]; rfl)) ?_; (with_reducible refine (laws_toIntS.calls k _ _ l0 t150 _ ?sd0 ?sd1 A2_.out).mono ?_); (case sd0 => exact (Kd.C_below HR0.out HM.out.below)); (case sd1 => exact HC0.out); rintro e_ w9_ ⟨vv0_, rfl, ho0_, hb⟩; refine ⟨_, rfl, ?_⟩; obtain ⟨Ao1_0, co1_0, ev_⟩ := Kd.R_slice ho0_; subst ev_; have n_ := Aside0.mk (HM.out.addR hb ho0_); clear HM; have HM := n_; clear n_; clear hb ho0_) | ((with_reducible refine gate_callee (f := 21) rfl ?_); (with_reducible refine gate_dst (N := 14) rfl ?_); refine goesL_ (some 14) rfl rfl Try.func21 (by kernel_rfl) rfl #[.slice Ao1_0 t150.length co1_0] rfl (by (try simp only [List.map_toArray, List.map_cons, List.map_nil]); first | done | rfl | (simp only [List.length_drop, List.length_take]; rfl)) ?_; (with_reducible refine (spec_WindingsOf.calls k _ _ t150 t151 t152 _ ?sd0 ?sd1 A3_.out).mono ?_); (case sd0 => exact (Kd.R_reads' (HM.out.R (h1 := fun _ => rfl) 0 rfl)).2.2); (case sd1 => exact (Kd.R_reads' (HM.out.R (h1 := fun _ => rfl) 0 rfl)).2.1); rintro e_ w10_ ⟨rfl, ho0_, hb⟩; refine ⟨_, rfl, ?_⟩; have HLt151 := Aside0.mk ho0_; have n_ := Aside0.mk (HM.out.step hb); clear HM; have HM := n_; clear n_; clear hb ho0_) | ((with_reducible refine gate_dst (N := 3) rfl ?_); refine box_event ?hg (N := 3) ?hd (cs := (ics (List.replicate 7 0))) (t := 35) ?hr ?_; (case hd => rfl); (case hg => rfl); (case hr => first | (go_simp; done) | (go_simp; rfl)); intro gb2 hg w11_ hbox hb; have n_ := Aside0.mk (HM.out.addBox hb hbox hg); clear HM; have HM := n_; clear n_; clear hb hbox hg) | ((with_reducible refine gate_store (t := 35) (p := 3) rfl ?_); refine wpList_store_row rfl _ _ _ rfl gb2 (ics t151) rfl rfl 35 (ics (List.replicate 7 0)) (HM.out.box 0 rfl) (by rw [ics_size, HLt151.out]; kernel_rfl) ((ics_size _).trans (((List.length_replicate)).trans ((show _ = 7 from HLt151.out).symm.trans (ics_size _).symm))) (ics_one _) ?_; generalize hw : World.setRow _ _ _ = w12_; have n_ : Aside0 (MS w w12_ [.box gb2 35 (ics t151), .row 3 (.slice Ao1_0 t150.length co1_0) (encs (Value.int .i64) t150)]) := ⟨by rw [← hw]; exact HM.out.setRow 0 rfl _⟩; clear HM hw; have HM := n_; clear n_) | ((with_reducible refine gate_callee (f := 19) rfl ?_); (with_reducible refine gate_dst (N := 18) rfl ?_); refine goesL_ (some 18) rfl rfl Try.func19 (by kernel_rfl) rfl #[.slice A0 l0.length c0] rfl (by (try simp only [List.map_toArray, List.map_cons, List.map_nil]); first | done | rfl | (simp only [List.length_drop, List.length_take]; rfl)) ?_; (with_reducible refine (laws_toIntS.calls k _ _ l0 t153 _ ?sd0 ?sd1 A4_.out).mono ?_); (case sd0 => exact (Kd.C_below HR0.out HM.out.below)); (case sd1 => exact HC0.out); rintro e_ w13_ ⟨vv0_, rfl, ho0_, hb⟩; refine ⟨_, rfl, ?_⟩; obtain ⟨Ao3_0, co3_0, ev_⟩ := Kd.R_slice ho0_; subst ev_; have n_ := Aside0.mk (HM.out.addR hb ho0_); clear HM; have HM := n_; clear n_; clear hb ho0_) | ((with_reducible refine gate_callee (f := 22) rfl ?_); (with_reducible refine gate_dst (N := 21) rfl ?_); refine goesL_ (some 21) rfl rfl Try.func22 (by kernel_rfl) rfl #[.slice Ao3_0 t153.length co3_0] rfl (by (try simp only [List.map_toArray, List.map_cons, List.map_nil]); first | done | rfl | (simp only [List.length_drop, List.length_take]; rfl)) ?_; (with_reducible refine (impl_WindingsOf.calls k _ _ t153 t154 t155 _ ?sd0 ?sd1 A5_.out).mono ?_); (case sd0 => exact (Kd.R_reads' (HM.out.R (h1 := fun _ => rfl) 0 rfl)).2.2); (case sd1 => exact (Kd.R_reads' (HM.out.R (h1 := fun _ => rfl) 0 rfl)).2.1); rintro e_ w14_ ⟨rfl, ho0_, hb⟩; refine ⟨_, rfl, ?_⟩; have HLt154 := Aside0.mk ho0_; have n_ := Aside0.mk (HM.out.step hb); clear HM; have HM := n_; clear n_; clear hb ho0_) | ((with_reducible refine gate_dst (N := 6) rfl ?_); refine box_event ?hg (N := 6) ?hd (cs := (ics (List.replicate 7 0))) (t := 35) ?hr ?_; (case hd => rfl); (case hg => rfl); (case hr => first | (go_simp; done) | (go_simp; rfl)); intro gb4 hg w15_ hbox hb; have n_ := Aside0.mk (HM.out.addBox hb hbox hg); clear HM; have HM := n_; clear n_; clear hb hbox hg) | ((with_reducible refine gate_store (t := 35) (p := 6) rfl ?_); refine wpList_store_row rfl _ _ _ rfl gb4 (ics t154) rfl rfl 35 (ics (List.replicate 7 0)) (HM.out.box 0 rfl) (by rw [ics_size, HLt154.out]; kernel_rfl) ((ics_size _).trans (((List.length_replicate)).trans ((show _ = 7 from HLt154.out).symm.trans (ics_size _).symm))) (ics_one _) ?_; generalize hw : World.setRow _ _ _ = w16_; have n_ : Aside0 (MS w w16_ [.box gb4 35 (ics t154), .row 3 (.slice Ao3_0 t153.length co3_0) (encs (Value.int .i64) t153), .box gb2 35 (ics t151), .row 3 (.slice Ao1_0 t150.length co1_0) (encs (Value.int .i64) t150)]) := ⟨by rw [← hw]; exact HM.out.setRow 0 rfl _⟩; clear HM hw; have HM := n_; clear n_) | ((with_reducible refine gate_dst (N := 24) rfl ?_); refine wpList_load_row rfl _ _ rfl gb4 rfl 35 (ics t154) (0, 0) _ (HM.out.box 0 rfl) Try.underlying35 rfl (by rw [ics_size, HLt154.out]; kernel_rfl) ?_) | ((with_reducible refine gate_dst (N := 25) rfl ?_); refine wpList_load_row rfl _ _ rfl gb2 rfl 35 (ics t151) (0, 0) _ (HM.out.box 2 rfl) Try.underlying35 rfl (by rw [ics_size, HLt151.out]; kernel_rfl) ?_) | ((with_reducible refine gate_callee (f := 23) rfl ?_); (with_reducible refine gate_dst (N := 26) rfl ?_); refine goesL_ (some 26) rfl rfl Try.func23 (by kernel_rfl) rfl #[.agg (ics t154), .agg (ics t151)] rfl (by (try simp only [List.map_toArray, List.map_cons, List.map_nil]); first | done | rfl | (simp only [List.length_drop, List.length_take]; rfl)) ?_; (with_reducible refine (laws_eqIntA7.calls k t154 t151 true _ ?sd0 ?sd1 A6_.out).mono ?_); (case sd0 => exact HLt154.out); (case sd1 => exact HLt151.out); rintro e_ w17_ ⟨rfl, hb⟩; refine ⟨_, rfl, ?_⟩; have n_ := Aside0.mk (HM.out.step hb); clear HM; have HM := n_; clear n_; clear hb))
        go_ret
        exact ⟨by first | rfl | (simp; done) | (simp [*]; done), HM.out.below⟩
      · rw [if_neg c8_] at H
        have c8_b0 : (t155 != t152) = false := by simpa using c8_
        have c8_b1 : (t155 == t152) = true := by simpa using c8_
        have c8_b2 : (t155 = t152) = True := eq_true (by simpa using c8_)
        clear c8_
        replace H := Option.bind_eq_some_iff.mp H
        obtain ⟨t157, A18_0, H⟩ := H
        replace H : ((laws_eqIntS.f k t153 t157).bind fun t158 => (if t158 = true then (some true) else (some false))) = some r := H
        have A18_ := Aside0.mk A18_0
        clear A18_0
        replace H := Option.bind_eq_some_iff.mp H
        obtain ⟨t158, A19_0, H⟩ := H
        replace H : (if t158 = true then (some true) else (some false)) = some r := H
        have A19_ := Aside0.mk A19_0
        clear A19_0
        by_cases c20_ : t158 = true
        · subst c20_
          have H1 : (some true) = some r := by rw [if_pos rfl] at H; exact H
          clear H
          have H := H1
          clear H1
          obtain rfl := Option.some.inj H
          go_enter Try.func7, Try.ntmps7
          go_wp2_with (first | ((with_reducible refine gate_callee (f := 19) rfl ?_); (with_reducible refine gate_dst (N := 13) rfl ?_); refine goesL_ (some 13) rfl rfl Try.func19 (by kernel_rfl) rfl #[.slice A0 l0.length c0] rfl (by (try simp only [List.map_toArray, List.map_cons, List.map_nil]); first | done | rfl | (simp only [List.length_drop, List.length_take]; rfl)) ?_; (with_reducible refine (laws_toIntS.calls k _ _ l0 t150 _ ?sd0 ?sd1 A2_.out).mono ?_); (case sd0 => exact (Kd.C_below HR0.out HM.out.below)); (case sd1 => exact HC0.out); rintro e_ w21_ ⟨vv0_, rfl, ho0_, hb⟩; refine ⟨_, rfl, ?_⟩; obtain ⟨Ao1_0, co1_0, ev_⟩ := Kd.R_slice ho0_; subst ev_; have n_ := Aside0.mk (HM.out.addR hb ho0_); clear HM; have HM := n_; clear n_; clear hb ho0_) | ((with_reducible refine gate_callee (f := 21) rfl ?_); (with_reducible refine gate_dst (N := 14) rfl ?_); refine goesL_ (some 14) rfl rfl Try.func21 (by kernel_rfl) rfl #[.slice Ao1_0 t150.length co1_0] rfl (by (try simp only [List.map_toArray, List.map_cons, List.map_nil]); first | done | rfl | (simp only [List.length_drop, List.length_take]; rfl)) ?_; (with_reducible refine (spec_WindingsOf.calls k _ _ t150 t151 t152 _ ?sd0 ?sd1 A3_.out).mono ?_); (case sd0 => exact (Kd.R_reads' (HM.out.R (h1 := fun _ => rfl) 0 rfl)).2.2); (case sd1 => exact (Kd.R_reads' (HM.out.R (h1 := fun _ => rfl) 0 rfl)).2.1); rintro e_ w22_ ⟨rfl, ho0_, hb⟩; refine ⟨_, rfl, ?_⟩; have HLt151 := Aside0.mk ho0_; have n_ := Aside0.mk (HM.out.step hb); clear HM; have HM := n_; clear n_; clear hb ho0_) | ((with_reducible refine gate_dst (N := 3) rfl ?_); refine box_event ?hg (N := 3) ?hd (cs := (ics (List.replicate 7 0))) (t := 35) ?hr ?_; (case hd => rfl); (case hg => rfl); (case hr => first | (go_simp; done) | (go_simp; rfl)); intro gb2 hg w23_ hbox hb; have n_ := Aside0.mk (HM.out.addBox hb hbox hg); clear HM; have HM := n_; clear n_; clear hb hbox hg) | ((with_reducible refine gate_store (t := 35) (p := 3) rfl ?_); refine wpList_store_row rfl _ _ _ rfl gb2 (ics t151) rfl rfl 35 (ics (List.replicate 7 0)) (HM.out.box 0 rfl) (by rw [ics_size, HLt151.out]; kernel_rfl) ((ics_size _).trans (((List.length_replicate)).trans ((show _ = 7 from HLt151.out).symm.trans (ics_size _).symm))) (ics_one _) ?_; generalize hw : World.setRow _ _ _ = w24_; have n_ : Aside0 (MS w w24_ [.box gb2 35 (ics t151), .row 3 (.slice Ao1_0 t150.length co1_0) (encs (Value.int .i64) t150)]) := ⟨by rw [← hw]; exact HM.out.setRow 0 rfl _⟩; clear HM hw; have HM := n_; clear n_) | ((with_reducible refine gate_callee (f := 19) rfl ?_); (with_reducible refine gate_dst (N := 18) rfl ?_); refine goesL_ (some 18) rfl rfl Try.func19 (by kernel_rfl) rfl #[.slice A0 l0.length c0] rfl (by (try simp only [List.map_toArray, List.map_cons, List.map_nil]); first | done | rfl | (simp only [List.length_drop, List.length_take]; rfl)) ?_; (with_reducible refine (laws_toIntS.calls k _ _ l0 t153 _ ?sd0 ?sd1 A4_.out).mono ?_); (case sd0 => exact (Kd.C_below HR0.out HM.out.below)); (case sd1 => exact HC0.out); rintro e_ w25_ ⟨vv0_, rfl, ho0_, hb⟩; refine ⟨_, rfl, ?_⟩; obtain ⟨Ao3_0, co3_0, ev_⟩ := Kd.R_slice ho0_; subst ev_; have n_ := Aside0.mk (HM.out.addR hb ho0_); clear HM; have HM := n_; clear n_; clear hb ho0_) | ((with_reducible refine gate_callee (f := 22) rfl ?_); (with_reducible refine gate_dst (N := 21) rfl ?_); refine goesL_ (some 21) rfl rfl Try.func22 (by kernel_rfl) rfl #[.slice Ao3_0 t153.length co3_0] rfl (by (try simp only [List.map_toArray, List.map_cons, List.map_nil]); first | done | rfl | (simp only [List.length_drop, List.length_take]; rfl)) ?_; (with_reducible refine (impl_WindingsOf.calls k _ _ t153 t154 t155 _ ?sd0 ?sd1 A5_.out).mono ?_); (case sd0 => exact (Kd.R_reads' (HM.out.R (h1 := fun _ => rfl) 0 rfl)).2.2); (case sd1 => exact (Kd.R_reads' (HM.out.R (h1 := fun _ => rfl) 0 rfl)).2.1); rintro e_ w26_ ⟨rfl, ho0_, hb⟩; refine ⟨_, rfl, ?_⟩; have HLt154 := Aside0.mk ho0_; have n_ := Aside0.mk (HM.out.step hb); clear HM; have HM := n_; clear n_; clear hb ho0_) | ((with_reducible refine gate_dst (N := 6) rfl ?_); refine box_event ?hg (N := 6) ?hd (cs := (ics (List.replicate 7 0))) (t := 35) ?hr ?_; (case hd => rfl); (case hg => rfl); (case hr => first | (go_simp; done) | (go_simp; rfl)); intro gb4 hg w27_ hbox hb; have n_ := Aside0.mk (HM.out.addBox hb hbox hg); clear HM; have HM := n_; clear n_; clear hb hbox hg) | ((with_reducible refine gate_store (t := 35) (p := 6) rfl ?_); refine wpList_store_row rfl _ _ _ rfl gb4 (ics t154) rfl rfl 35 (ics (List.replicate 7 0)) (HM.out.box 0 rfl) (by rw [ics_size, HLt154.out]; kernel_rfl) ((ics_size _).trans (((List.length_replicate)).trans ((show _ = 7 from HLt154.out).symm.trans (ics_size _).symm))) (ics_one _) ?_; generalize hw : World.setRow _ _ _ = w28_; have n_ : Aside0 (MS w w28_ [.box gb4 35 (ics t154), .row 3 (.slice Ao3_0 t153.length co3_0) (encs (Value.int .i64) t153), .box gb2 35 (ics t151), .row 3 (.slice Ao1_0 t150.length co1_0) (encs (Value.int .i64) t150)]) := ⟨by rw [← hw]; exact HM.out.setRow 0 rfl _⟩; clear HM hw; have HM := n_; clear n_) | ((with_reducible refine gate_dst (N := 24) rfl ?_); refine wpList_load_row rfl _ _ rfl gb4 rfl 35 (ics t154) (0, 0) _ (HM.out.box 0 rfl) Try.underlying35 rfl (by rw [ics_size, HLt154.out]; kernel_rfl) ?_) | ((with_reducible refine gate_dst (N := 25) rfl ?_); refine wpList_load_row rfl _ _ rfl gb2 rfl 35 (ics t151) (0, 0) _ (HM.out.box 2 rfl) Try.underlying35 rfl (by rw [ics_size, HLt151.out]; kernel_rfl) ?_) | ((with_reducible refine gate_callee (f := 23) rfl ?_); (with_reducible refine gate_dst (N := 26) rfl ?_); refine goesL_ (some 26) rfl rfl Try.func23 (by kernel_rfl) rfl #[.agg (ics t154), .agg (ics t151)] rfl (by (try simp only [List.map_toArray, List.map_cons, List.map_nil]); first | done | rfl | (simp only [List.length_drop, List.length_take]; rfl)) ?_; (with_reducible refine (laws_eqIntA7.calls k t154 t151 true _ ?sd0 ?sd1 A6_.out).mono ?_); (case sd0 => exact HLt154.out); (case sd1 => exact HLt151.out); rintro e_ w29_ ⟨rfl, hb⟩; refine ⟨_, rfl, ?_⟩; have n_ := Aside0.mk (HM.out.step hb); clear HM; have HM := n_; clear n_; clear hb) | ((with_reducible refine gate_callee (f := 19) rfl ?_); (with_reducible refine gate_dst (N := 35) rfl ?_); refine goesL_ (some 35) rfl rfl Try.func19 (by kernel_rfl) rfl #[.slice A0 l0.length c0] rfl (by (try simp only [List.map_toArray, List.map_cons, List.map_nil]); first | done | rfl | (simp only [List.length_drop, List.length_take]; rfl)) ?_; (with_reducible refine (laws_toIntS.calls k _ _ l0 t157 _ ?sd0 ?sd1 A18_.out).mono ?_); (case sd0 => exact (Kd.C_below HR0.out HM.out.below)); (case sd1 => exact HC0.out); rintro e_ w30_ ⟨vv0_, rfl, ho0_, hb⟩; refine ⟨_, rfl, ?_⟩; obtain ⟨Ao5_0, co5_0, ev_⟩ := Kd.R_slice ho0_; subst ev_; have n_ := Aside0.mk (HM.out.addR hb ho0_); clear HM; have HM := n_; clear n_; clear hb ho0_) | ((with_reducible refine gate_callee (f := 13) rfl ?_); (with_reducible refine gate_dst (N := 36) rfl ?_); refine goesL_ (some 36) rfl rfl Try.func13 (by kernel_rfl) rfl #[.slice Ao3_0 t153.length co3_0, .slice Ao5_0 t157.length co5_0] rfl (by (try simp only [List.map_toArray, List.map_cons, List.map_nil]); first | done | rfl | (simp only [List.length_drop, List.length_take]; rfl)) ?_; (with_reducible refine (laws_eqIntS.calls k _ _ t153 _ _ t157 true _ ?sd0 ?sd1 ?sd2 ?sd3 A19_.out).mono ?_); (case sd0 => exact (Kd.R_reads' (HM.out.R (h1 := fun _ => rfl) 2 rfl)).2.2); (case sd1 => exact (Kd.R_reads' (HM.out.R (h1 := fun _ => rfl) 2 rfl)).2.1); (case sd2 => exact (Kd.R_reads' (HM.out.R (h1 := fun _ => rfl) 0 rfl)).2.2); (case sd3 => exact (Kd.R_reads' (HM.out.R (h1 := fun _ => rfl) 0 rfl)).2.1); rintro e_ w31_ ⟨rfl, hd_⟩; refine ⟨_, rfl, ?_⟩; have hb := hd_.below; clear hd_; have n_ := Aside0.mk (HM.out.step hb); clear HM; have HM := n_; clear n_; clear hb))
          go_ret
          exact ⟨by first | rfl | (simp; done) | (simp [*]; done), HM.out.below⟩
        · replace c20_ := Bool.eq_false_iff.mpr c20_
          subst c20_
          have H1 : (some false) = some r := by rw [if_neg (show ¬ (false = true) by decide)] at H; exact H
          clear H
          have H := H1
          clear H1
          obtain rfl := Option.some.inj H
          go_enter Try.func7, Try.ntmps7
          go_wp2_with (first | ((with_reducible refine gate_callee (f := 19) rfl ?_); (with_reducible refine gate_dst (N := 13) rfl ?_); refine goesL_ (some 13) rfl rfl Try.func19 (by kernel_rfl) rfl #[.slice A0 l0.length c0] rfl (by (try simp only [List.map_toArray, List.map_cons, List.map_nil]); first | done | rfl | (simp only [List.length_drop, List.length_take]; rfl)) ?_; (with_reducible refine (laws_toIntS.calls k _ _ l0 t150 _ ?sd0 ?sd1 A2_.out).mono ?_); (case sd0 => exact (Kd.C_below HR0.out HM.out.below)); (case sd1 => exact HC0.out); rintro e_ w32_ ⟨vv0_, rfl, ho0_, hb⟩; refine ⟨_, rfl, ?_⟩; obtain ⟨Ao1_0, co1_0, ev_⟩ := Kd.R_slice ho0_; subst ev_; have n_ := Aside0.mk (HM.out.addR hb ho0_); clear HM; have HM := n_; clear n_; clear hb ho0_) | ((with_reducible refine gate_callee (f := 21) rfl ?_); (with_reducible refine gate_dst (N := 14) rfl ?_); refine goesL_ (some 14) rfl rfl Try.func21 (by kernel_rfl) rfl #[.slice Ao1_0 t150.length co1_0] rfl (by (try simp only [List.map_toArray, List.map_cons, List.map_nil]); first | done | rfl | (simp only [List.length_drop, List.length_take]; rfl)) ?_; (with_reducible refine (spec_WindingsOf.calls k _ _ t150 t151 t152 _ ?sd0 ?sd1 A3_.out).mono ?_); (case sd0 => exact (Kd.R_reads' (HM.out.R (h1 := fun _ => rfl) 0 rfl)).2.2); (case sd1 => exact (Kd.R_reads' (HM.out.R (h1 := fun _ => rfl) 0 rfl)).2.1); rintro e_ w33_ ⟨rfl, ho0_, hb⟩; refine ⟨_, rfl, ?_⟩; have HLt151 := Aside0.mk ho0_; have n_ := Aside0.mk (HM.out.step hb); clear HM; have HM := n_; clear n_; clear hb ho0_) | ((with_reducible refine gate_dst (N := 3) rfl ?_); refine box_event ?hg (N := 3) ?hd (cs := (ics (List.replicate 7 0))) (t := 35) ?hr ?_; (case hd => rfl); (case hg => rfl); (case hr => first | (go_simp; done) | (go_simp; rfl)); intro gb2 hg w34_ hbox hb; have n_ := Aside0.mk (HM.out.addBox hb hbox hg); clear HM; have HM := n_; clear n_; clear hb hbox hg) | ((with_reducible refine gate_store (t := 35) (p := 3) rfl ?_); refine wpList_store_row rfl _ _ _ rfl gb2 (ics t151) rfl rfl 35 (ics (List.replicate 7 0)) (HM.out.box 0 rfl) (by rw [ics_size, HLt151.out]; kernel_rfl) ((ics_size _).trans (((List.length_replicate)).trans ((show _ = 7 from HLt151.out).symm.trans (ics_size _).symm))) (ics_one _) ?_; generalize hw : World.setRow _ _ _ = w35_; have n_ : Aside0 (MS w w35_ [.box gb2 35 (ics t151), .row 3 (.slice Ao1_0 t150.length co1_0) (encs (Value.int .i64) t150)]) := ⟨by rw [← hw]; exact HM.out.setRow 0 rfl _⟩; clear HM hw; have HM := n_; clear n_) | ((with_reducible refine gate_callee (f := 19) rfl ?_); (with_reducible refine gate_dst (N := 18) rfl ?_); refine goesL_ (some 18) rfl rfl Try.func19 (by kernel_rfl) rfl #[.slice A0 l0.length c0] rfl (by (try simp only [List.map_toArray, List.map_cons, List.map_nil]); first | done | rfl | (simp only [List.length_drop, List.length_take]; rfl)) ?_; (with_reducible refine (laws_toIntS.calls k _ _ l0 t153 _ ?sd0 ?sd1 A4_.out).mono ?_); (case sd0 => exact (Kd.C_below HR0.out HM.out.below)); (case sd1 => exact HC0.out); rintro e_ w36_ ⟨vv0_, rfl, ho0_, hb⟩; refine ⟨_, rfl, ?_⟩; obtain ⟨Ao3_0, co3_0, ev_⟩ := Kd.R_slice ho0_; subst ev_; have n_ := Aside0.mk (HM.out.addR hb ho0_); clear HM; have HM := n_; clear n_; clear hb ho0_) | ((with_reducible refine gate_callee (f := 22) rfl ?_); (with_reducible refine gate_dst (N := 21) rfl ?_); refine goesL_ (some 21) rfl rfl Try.func22 (by kernel_rfl) rfl #[.slice Ao3_0 t153.length co3_0] rfl (by (try simp only [List.map_toArray, List.map_cons, List.map_nil]); first | done | rfl | (simp only [List.length_drop, List.length_take]; rfl)) ?_; (with_reducible refine (impl_WindingsOf.calls k _ _ t153 t154 t155 _ ?sd0 ?sd1 A5_.out).mono ?_); (case sd0 => exact (Kd.R_reads' (HM.out.R (h1 := fun _ => rfl) 0 rfl)).2.2); (case sd1 => exact (Kd.R_reads' (HM.out.R (h1 := fun _ => rfl) 0 rfl)).2.1); rintro e_ w37_ ⟨rfl, ho0_, hb⟩; refine ⟨_, rfl, ?_⟩; have HLt154 := Aside0.mk ho0_; have n_ := Aside0.mk (HM.out.step hb); clear HM; have HM := n_; clear n_; clear hb ho0_) | ((with_reducible refine gate_dst (N := 6) rfl ?_); refine box_event ?hg (N := 6) ?hd (cs := (ics (List.replicate 7 0))) (t := 35) ?hr ?_; (case hd => rfl); (case hg => rfl); (case hr => first | (go_simp; done) | (go_simp; rfl)); intro gb4 hg w38_ hbox hb; have n_ := Aside0.mk (HM.out.addBox hb hbox hg); clear HM; have HM := n_; clear n_; clear hb hbox hg) | ((with_reducible refine gate_store (t := 35) (p := 6) rfl ?_); refine wpList_store_row rfl _ _ _ rfl gb4 (ics t154) rfl rfl 35 (ics (List.replicate 7 0)) (HM.out.box 0 rfl) (by rw [ics_size, HLt154.out]; kernel_rfl) ((ics_size _).trans (((List.length_replicate)).trans ((show _ = 7 from HLt154.out).symm.trans (ics_size _).symm))) (ics_one _) ?_; generalize hw : World.setRow _ _ _ = w39_; have n_ : Aside0 (MS w w39_ [.box gb4 35 (ics t154), .row 3 (.slice Ao3_0 t153.length co3_0) (encs (Value.int .i64) t153), .box gb2 35 (ics t151), .row 3 (.slice Ao1_0 t150.length co1_0) (encs (Value.int .i64) t150)]) := ⟨by rw [← hw]; exact HM.out.setRow 0 rfl _⟩; clear HM hw; have HM := n_; clear n_) | ((with_reducible refine gate_dst (N := 24) rfl ?_); refine wpList_load_row rfl _ _ rfl gb4 rfl 35 (ics t154) (0, 0) _ (HM.out.box 0 rfl) Try.underlying35 rfl (by rw [ics_size, HLt154.out]; kernel_rfl) ?_) | ((with_reducible refine gate_dst (N := 25) rfl ?_); refine wpList_load_row rfl _ _ rfl gb2 rfl 35 (ics t151) (0, 0) _ (HM.out.box 2 rfl) Try.underlying35 rfl (by rw [ics_size, HLt151.out]; kernel_rfl) ?_) | ((with_reducible refine gate_callee (f := 23) rfl ?_); (with_reducible refine gate_dst (N := 26) rfl ?_); refine goesL_ (some 26) rfl rfl Try.func23 (by kernel_rfl) rfl #[.agg (ics t154), .agg (ics t151)] rfl (by (try simp only [List.map_toArray, List.map_cons, List.map_nil]); first | done | rfl | (simp only [List.length_drop, List.length_take]; rfl)) ?_; (with_reducible refine (laws_eqIntA7.calls k t154 t151 true _ ?sd0 ?sd1 A6_.out).mono ?_); (case sd0 => exact HLt154.out); (case sd1 => exact HLt151.out); rintro e_ w40_ ⟨rfl, hb⟩; refine ⟨_, rfl, ?_⟩; have n_ := Aside0.mk (HM.out.step hb); clear HM; have HM := n_; clear n_; clear hb) | ((with_reducible refine gate_callee (f := 19) rfl ?_); (with_reducible refine gate_dst (N := 35) rfl ?_); refine goesL_ (some 35) rfl rfl Try.func19 (by kernel_rfl) rfl #[.slice A0 l0.length c0] rfl (by (try simp only [List.map_toArray, List.map_cons, List.map_nil]); first | done | rfl | (simp only [List.length_drop, List.length_take]; rfl)) ?_; (with_reducible refine (laws_toIntS.calls k _ _ l0 t157 _ ?sd0 ?sd1 A18_.out).mono ?_); (case sd0 => exact (Kd.C_below HR0.out HM.out.below)); (case sd1 => exact HC0.out); rintro e_ w41_ ⟨vv0_, rfl, ho0_, hb⟩; refine ⟨_, rfl, ?_⟩; obtain ⟨Ao5_0, co5_0, ev_⟩ := Kd.R_slice ho0_; subst ev_; have n_ := Aside0.mk (HM.out.addR hb ho0_); clear HM; have HM := n_; clear n_; clear hb ho0_) | ((with_reducible refine gate_callee (f := 13) rfl ?_); (with_reducible refine gate_dst (N := 36) rfl ?_); refine goesL_ (some 36) rfl rfl Try.func13 (by kernel_rfl) rfl #[.slice Ao3_0 t153.length co3_0, .slice Ao5_0 t157.length co5_0] rfl (by (try simp only [List.map_toArray, List.map_cons, List.map_nil]); first | done | rfl | (simp only [List.length_drop, List.length_take]; rfl)) ?_; (with_reducible refine (laws_eqIntS.calls k _ _ t153 _ _ t157 false _ ?sd0 ?sd1 ?sd2 ?sd3 A19_.out).mono ?_); (case sd0 => exact (Kd.R_reads' (HM.out.R (h1 := fun _ => rfl) 2 rfl)).2.2); (case sd1 => exact (Kd.R_reads' (HM.out.R (h1 := fun _ => rfl) 2 rfl)).2.1); (case sd2 => exact (Kd.R_reads' (HM.out.R (h1 := fun _ => rfl) 0 rfl)).2.2); (case sd3 => exact (Kd.R_reads' (HM.out.R (h1 := fun _ => rfl) 0 rfl)).2.1); rintro e_ w42_ ⟨rfl, hd_⟩; refine ⟨_, rfl, ?_⟩; have hb := hd_.below; clear hd_; have n_ := Aside0.mk (HM.out.step hb); clear HM; have HM := n_; clear n_; clear hb))
          go_ret
          exact ⟨by first | rfl | (simp; done) | (simp [*]; done), HM.out.below⟩
    · replace c7_ := Bool.eq_false_iff.mpr c7_
      subst c7_
      have H1 : (some false) = some r := by rw [if_neg (show ¬ (false = true) by decide)] at H; exact H
      clear H
      have H := H1
      clear H1
      obtain rfl := Option.some.inj H
      go_enter Try.func7, Try.ntmps7
      go_wp2_with (first | ((with_reducible refine gate_callee (f := 19) rfl ?_); (with_reducible refine gate_dst (N := 13) rfl ?_); refine goesL_ (some 13) rfl rfl Try.func19 (by kernel_rfl) rfl #[.slice A0 l0.length c0] rfl (by (try simp only [List.map_toArray, List.map_cons, List.map_nil]); first | done | rfl | (simp only [List.length_drop, List.length_take]; rfl)) ?_; (with_reducible refine (laws_toIntS.calls k _ _ l0 t150 _ ?sd0 ?sd1 A2_.out).mono ?_); (case sd0 => exact (Kd.C_below HR0.out HM.out.below)); (case sd1 => exact HC0.out); rintro e_ w43_ ⟨vv0_, rfl, ho0_, hb⟩; refine ⟨_, rfl, ?_⟩; obtain ⟨Ao1_0, co1_0, ev_⟩ := Kd.R_slice ho0_; subst ev_; have n_ := Aside0.mk (HM.out.addR hb ho0_); clear HM; have HM := n_; clear n_; clear hb ho0_) | ((with_reducible refine gate_callee (f := 21) rfl ?_); (with_reducible refine gate_dst (N := 14) rfl ?_); refine goesL_ (some 14) rfl rfl Try.func21 (by kernel_rfl) rfl #[.slice Ao1_0 t150.length co1_0] rfl (by (try simp only [List.map_toArray, List.map_cons, List.map_nil]); first | done | rfl | (simp only [List.length_drop, List.length_take]; rfl)) ?_; (with_reducible refine (spec_WindingsOf.calls k _ _ t150 t151 t152 _ ?sd0 ?sd1 A3_.out).mono ?_); (case sd0 => exact (Kd.R_reads' (HM.out.R (h1 := fun _ => rfl) 0 rfl)).2.2); (case sd1 => exact (Kd.R_reads' (HM.out.R (h1 := fun _ => rfl) 0 rfl)).2.1); rintro e_ w44_ ⟨rfl, ho0_, hb⟩; refine ⟨_, rfl, ?_⟩; have HLt151 := Aside0.mk ho0_; have n_ := Aside0.mk (HM.out.step hb); clear HM; have HM := n_; clear n_; clear hb ho0_) | ((with_reducible refine gate_dst (N := 3) rfl ?_); refine box_event ?hg (N := 3) ?hd (cs := (ics (List.replicate 7 0))) (t := 35) ?hr ?_; (case hd => rfl); (case hg => rfl); (case hr => first | (go_simp; done) | (go_simp; rfl)); intro gb2 hg w45_ hbox hb; have n_ := Aside0.mk (HM.out.addBox hb hbox hg); clear HM; have HM := n_; clear n_; clear hb hbox hg) | ((with_reducible refine gate_store (t := 35) (p := 3) rfl ?_); refine wpList_store_row rfl _ _ _ rfl gb2 (ics t151) rfl rfl 35 (ics (List.replicate 7 0)) (HM.out.box 0 rfl) (by rw [ics_size, HLt151.out]; kernel_rfl) ((ics_size _).trans (((List.length_replicate)).trans ((show _ = 7 from HLt151.out).symm.trans (ics_size _).symm))) (ics_one _) ?_; generalize hw : World.setRow _ _ _ = w46_; have n_ : Aside0 (MS w w46_ [.box gb2 35 (ics t151), .row 3 (.slice Ao1_0 t150.length co1_0) (encs (Value.int .i64) t150)]) := ⟨by rw [← hw]; exact HM.out.setRow 0 rfl _⟩; clear HM hw; have HM := n_; clear n_) | ((with_reducible refine gate_callee (f := 19) rfl ?_); (with_reducible refine gate_dst (N := 18) rfl ?_); refine goesL_ (some 18) rfl rfl Try.func19 (by kernel_rfl) rfl #[.slice A0 l0.length c0] rfl (by (try simp only [List.map_toArray, List.map_cons, List.map_nil]); first | done | rfl | (simp only [List.length_drop, List.length_take]; rfl)) ?_; (with_reducible refine (laws_toIntS.calls k _ _ l0 t153 _ ?sd0 ?sd1 A4_.out).mono ?_); (case sd0 => exact (Kd.C_below HR0.out HM.out.below)); (case sd1 => exact HC0.out); rintro e_ w47_ ⟨vv0_, rfl, ho0_, hb⟩; refine ⟨_, rfl, ?_⟩; obtain ⟨Ao3_0, co3_0, ev_⟩ := Kd.R_slice ho0_; subst ev_; have n_ := Aside0.mk (HM.out.addR hb ho0_); clear HM; have HM := n_; clear n_; clear hb ho0_) | ((with_reducible refine gate_callee (f := 22) rfl ?_); (with_reducible refine gate_dst (N := 21) rfl ?_); refine goesL_ (some 21) rfl rfl Try.func22 (by kernel_rfl) rfl #[.slice Ao3_0 t153.length co3_0] rfl (by (try simp only [List.map_toArray, List.map_cons, List.map_nil]); first | done | rfl | (simp only [List.length_drop, List.length_take]; rfl)) ?_; (with_reducible refine (impl_WindingsOf.calls k _ _ t153 t154 t155 _ ?sd0 ?sd1 A5_.out).mono ?_); (case sd0 => exact (Kd.R_reads' (HM.out.R (h1 := fun _ => rfl) 0 rfl)).2.2); (case sd1 => exact (Kd.R_reads' (HM.out.R (h1 := fun _ => rfl) 0 rfl)).2.1); rintro e_ w48_ ⟨rfl, ho0_, hb⟩; refine ⟨_, rfl, ?_⟩; have HLt154 := Aside0.mk ho0_; have n_ := Aside0.mk (HM.out.step hb); clear HM; have HM := n_; clear n_; clear hb ho0_) | ((with_reducible refine gate_dst (N := 6) rfl ?_); refine box_event ?hg (N := 6) ?hd (cs := (ics (List.replicate 7 0))) (t := 35) ?hr ?_; (case hd => rfl); (case hg => rfl); (case hr => first | (go_simp; done) | (go_simp; rfl)); intro gb4 hg w49_ hbox hb; have n_ := Aside0.mk (HM.out.addBox hb hbox hg); clear HM; have HM := n_; clear n_; clear hb hbox hg) | ((with_reducible refine gate_store (t := 35) (p := 6) rfl ?_); refine wpList_store_row rfl _ _ _ rfl gb4 (ics t154) rfl rfl 35 (ics (List.replicate 7 0)) (HM.out.box 0 rfl) (by rw [ics_size, HLt154.out]; kernel_rfl) ((ics_size _).trans (((List.length_replicate)).trans ((show _ = 7 from HLt154.out).symm.trans (ics_size _).symm))) (ics_one _) ?_; generalize hw : World.setRow _ _ _ = w50_; have n_ : Aside0 (MS w w50_ [.box gb4 35 (ics t154), .row 3 (.slice Ao3_0 t153.length co3_0) (encs (Value.int .i64) t153), .box gb2 35 (ics t151), .row 3 (.slice Ao1_0 t150.length co1_0) (encs (Value.int .i64) t150)]) := ⟨by rw [← hw]; exact HM.out.setRow 0 rfl _⟩; clear HM hw; have HM := n_; clear n_) | ((with_reducible refine gate_dst (N := 24) rfl ?_); refine wpList_load_row rfl _ _ rfl gb4 rfl 35 (ics t154) (0, 0) _ (HM.out.box 0 rfl) Try.underlying35 rfl (by rw [ics_size, HLt154.out]; kernel_rfl) ?_) | ((with_reducible refine gate_dst (N := 25) rfl ?_); refine wpList_load_row rfl _ _ rfl gb2 rfl 35 (ics t151) (0, 0) _ (HM.out.box 2 rfl) Try.underlying35 rfl (by rw [ics_size, HLt151.out]; kernel_rfl) ?_) | ((with_reducible refine gate_callee (f := 23) rfl ?_); (with_reducible refine gate_dst (N := 26) rfl ?_); refine goesL_ (some 26) rfl rfl Try.func23 (by kernel_rfl) rfl #[.agg (ics t154), .agg (ics t151)] rfl (by (try simp only [List.map_toArray, List.map_cons, List.map_nil]); first | done | rfl | (simp only [List.length_drop, List.length_take]; rfl)) ?_; (with_reducible refine (laws_eqIntA7.calls k t154 t151 false _ ?sd0 ?sd1 A6_.out).mono ?_); (case sd0 => exact HLt154.out); (case sd1 => exact HLt151.out); rintro e_ w51_ ⟨rfl, hb⟩; refine ⟨_, rfl, ?_⟩; have n_ := Aside0.mk (HM.out.step hb); clear HM; have HM := n_; clear n_; clear hb))
      go_ret
      exact ⟨by first | rfl | (simp; done) | (simp [*]; done), HM.out.below⟩

end Go.Proofs.Ytajphpfbihilmaa.Q
