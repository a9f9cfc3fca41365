-- Written by a program of this session's own (wip/wgen.py): what functions of the program compute, and that they do.
import Derived.Below
import Derived.Deep.Draws
import Derived.Deep.AppendLies
import Derived.Maps.AppendAt
import Derived.OwnWalk
import Derived.Laws.BytesArg
import Derived.Laws.MakeOwn
import Derived.Laws.OwnMore
import Derived.Deep.OwnRows
import Derived.Tactics
import Derived.Lib.ConvBytes
import Derived.Laws.Slices
import Derived.WalkKit
import Derived.KernelRfl
import Derived.RowKit3
import Derived.Deep.LoopGhost
import Derived.Deep.QuietTactic
import Derived.BigQuiet
import Derived.WideLaws
import Derived.Deep.DeepCutAuto
import Derived.Deep.CutBlock
import Derived.Deep.RegionHeld3
import Derived.Laws.Rows
import Derived.Lib.AppendStr
import Derived.ArgAppend
import Derived.Laws.IdiomCopy
import Derived.OrdersHeld
import Derived.Laws.BitsLemmas
import Derived.RowKit
import Derived.Test.YtajphpfbihilmaaHM
import Derived.Test.YtajphpfbihilmaaRG
import Derived.Test.YtajphpfbihilmaaProg
import Derived.Test.YtajphpfbihilmaaK1
import Derived.Test.YtajphpfbihilmaaKL1
import Derived.Test.YtajphpfbihilmaaQI
import Derived.Test.YtajphpfbihilmaaQ8
namespace Go.Proofs.Ytajphpfbihilmaa.Q
open Go.RowKit Go.Proofs.YtajphpfbihilmaaW.PrintWords Go.Proofs.YtajphpfbihilmaaW.PrintLast Go.Proofs.YtajphpfbihilmaaW.PrintMore Go.Proofs.YtajphpfbihilmaaM Go.Proofs.Ytajphpfbihilmaa.K Go.Proofs.Ytajphpfbihilmaa.KL
attribute [local go_sem] max2_int min2_int max_two min_two max_three min_three max_four min_four
set_option linter.unusedVariables false
set_option linter.unusedSimpArgs false

/-! ### spec_WindingsOf: function 21 -/
def spec_WindingsOf.l0 : Nat → (Int) → (List Int) → (List Int) → Option (List Int × Bool)
  | 0, _, _, _ => none
  | k + 1, x6, m3, m2 => if x6 < 6 then (if 0 ≤ x6 then (if 0 ≤ (wrap64 (x6 + 1)) then (if (wrap64 (x6 + 1)) < 7 then (spec_WindingsOf.l0 k (wrap64 (x6 + 1)) m3 (m2.set (wrap64 (x6 + 1) : Int).toNat (m3.getD (x6.toNat) 0))) else (none)) else (none)) else (none)) else (some (m2, true))
def spec_WindingsOf.f (k : Nat) (l0 : List Int) : Option (List Int × Bool) := (spec_l2Word.f k l0).bind fun t128 => (if t128 = true then ((spec_l8Of.f k l0).bind fun t129 => (spec_WindingsOf.l0 k 0 t129 (List.replicate 7 0))) else (some (List.replicate 7 0, false)))
set_option maxHeartbeats 8000000 in
set_option maxRecDepth 100000 in
theorem spec_WindingsOf.calls (k : Nat) (A0 : Option Addr) (c0 : Nat) (l0 : List Int) (r1 : List Int) (r2 : Bool) (w : World) (hr0 : Kd.C (Kd.int .i64) w A0 l0.length l0) (hc0 : l0.length ≤ c0) (h : spec_WindingsOf.f k l0 = some (r1, r2)) :
    Calls Try.prog 21 #[.slice A0 l0.length c0] w fun e w' => e = .returned (.tuple #[.agg (ics r1), .bool r2]) ∧ r1.length = 7 ∧ Below w.heap.size w w' := by
  have HR0 := Aside0.mk hr0
  have HC0 := Aside0.mk hc0
  clear hr0 hc0
  have hu35 := Try.underlying35
  have hu43 := Try.underlying43
  have hu47 := Try.underlying47
  have HM := Aside0.mk (MS.start w)
  have H : ((spec_l2Word.f k l0).bind fun t128 => (if t128 = true then ((spec_l8Of.f k l0).bind fun t129 => (spec_WindingsOf.l0 k 0 t129 (List.replicate 7 0))) else (some (List.replicate 7 0, false)))) = some (r1, r2) := h
  clear h
  replace H := Option.bind_eq_some_iff.mp H
  obtain ⟨t128, A1_0, H⟩ := H
  replace H : (if t128 = true then ((spec_l8Of.f k l0).bind fun t129 => (spec_WindingsOf.l0 k 0 t129 (List.replicate 7 0))) else (some (List.replicate 7 0, false))) = some (r1, r2) := H
  have A1_ := Aside0.mk A1_0
  clear A1_0
  by_cases c2_ : t128 = true
  · subst c2_
    have H1 : ((spec_l8Of.f k l0).bind fun t129 => (spec_WindingsOf.l0 k 0 t129 (List.replicate 7 0))) = some (r1, r2) := by rw [if_pos rfl] at H; exact H
    clear H
    have H := H1
    clear H1
    replace H := Option.bind_eq_some_iff.mp H
    obtain ⟨t129, A3_0, H⟩ := H
    replace H : (spec_WindingsOf.l0 k 0 t129 (List.replicate 7 0)) = some (r1, r2) := H
    have A3_ := Aside0.mk A3_0
    clear A3_0
    have H' := Aside0.mk H
    clear H
    go_enter Try.func21, Try.ntmps21
    go_wp2_with (first | ((with_reducible refine gate_dst (N := 2) rfl ?_); refine box_event ?hg (N := 2) ?hd (cs := (ics (List.replicate 7 0))) (t := 35) ?hr ?_; (case hd => rfl); (case hg => rfl); (case hr => first | (go_simp; done) | (go_simp; rfl)); intro gb1 hg w4_ hbox hb; have n_ := Aside0.mk (HM.out.addBox hb hbox hg); clear HM; have HM := n_; clear n_; clear hb hbox hg) | ((with_reducible refine gate_dst (N := 7) rfl ?_); refine build_zero ?hg (N := 7) ?hd (cs := (ics (List.replicate 7 0))) ?hr ?_; (case hd => rfl); (case hg => rfl); (case hr => first | (go_simp; done) | (go_simp; rfl))) | ((with_reducible refine gate_dst (N := 4) rfl ?_); refine box_event ?hg (N := 4) ?hd (cs := (ics (List.replicate 7 0))) (t := 35) ?hr ?_; (case hd => rfl); (case hg => rfl); (case hr => first | (go_simp; done) | (go_simp; rfl)); intro gb2 hg w5_ hbox hb; have n_ := Aside0.mk (HM.out.addBox hb hbox hg); clear HM; have HM := n_; clear n_; clear hb hbox hg) | ((with_reducible refine gate_store (t := 35) (p := 4) rfl ?_); refine wpList_store_row rfl _ _ _ rfl gb2 (ics (List.replicate 7 0)) rfl rfl 35 (ics (List.replicate 7 0)) (HM.out.box 0 rfl) (by rw [ics_size, (List.length_replicate)]; kernel_rfl) ((ics_size _).trans (((List.length_replicate)).trans ((show _ = 7 from (List.length_replicate)).symm.trans (ics_size _).symm))) (ics_one _) ?_; generalize hw : World.setRow _ _ _ = w6_; have n_ : Aside0 (MS w w6_ [.box gb2 35 (ics (List.replicate 7 0)), .box gb1 35 (ics (List.replicate 7 0))]) := ⟨by rw [← hw]; exact HM.out.setRow 0 rfl _⟩; clear HM hw; have HM := n_; clear n_) | ((with_reducible refine gate_callee (f := 37) rfl ?_); (with_reducible refine gate_dst (N := 9) rfl ?_); refine goesL_ (some 9) rfl rfl Try.func37 (by kernel_rfl) rfl #[.slice A0 l0.length c0] rfl (by (try simp only [List.map_toArray, List.map_cons, List.map_nil]); first | done | rfl | (simp only [List.length_drop, List.length_take]; rfl)) ?_; (with_reducible refine (spec_l2Word.calls k _ _ l0 true _ ?sd0 ?sd1 A1_.out).mono ?_); (case sd0 => exact (Kd.C_below HR0.out HM.out.below)); (case sd1 => exact HC0.out); rintro e_ w7_ ⟨rfl, hd_⟩; refine ⟨_, rfl, ?_⟩; have hb := hd_.below; clear hd_; have n_ := Aside0.mk (HM.out.step hb); clear HM; have HM := n_; clear n_; clear hb) | ((with_reducible refine gate_callee (f := 38) rfl ?_); (with_reducible refine gate_dst (N := 13) rfl ?_); refine goesL_ (some 13) rfl rfl Try.func38 (by kernel_rfl) rfl #[.slice A0 l0.length c0] rfl (by (try simp only [List.map_toArray, List.map_cons, List.map_nil]); first | done | rfl | (simp only [List.length_drop, List.length_take]; rfl)) ?_; (with_reducible refine (spec_l8Of.calls k _ _ l0 t129 _ ?sd0 ?sd1 A3_.out).mono ?_); (case sd0 => exact (Kd.C_below HR0.out HM.out.below)); (case sd1 => exact HC0.out); rintro e_ w8_ ⟨rfl, ho0_, hb⟩; refine ⟨_, rfl, ?_⟩; have HLt129 := Aside0.mk ho0_; have n_ := Aside0.mk (HM.out.step hb); clear HM; have HM := n_; clear n_; clear hb ho0_) | ((with_reducible refine gate_dst (N := 5) rfl ?_); refine box_event ?hg (N := 5) ?hd (cs := (ics (List.replicate 258 0))) (t := 47) ?hr ?_; (case hd => rfl); (case hg => rfl); (case hr => first | (go_simp; done) | (go_simp; rfl)); intro gb3 hg w9_ hbox hb; have n_ := Aside0.mk (HM.out.addBox hb hbox hg); clear HM; have HM := n_; clear n_; clear hb hbox hg) | ((with_reducible refine gate_store (t := 47) (p := 5) rfl ?_); refine wpList_store_row rfl _ _ _ rfl gb3 (ics t129) rfl rfl 47 (ics (List.replicate 258 0)) (HM.out.box 0 rfl) (by rw [ics_size, HLt129.out]; kernel_rfl) ((ics_size _).trans (((List.length_replicate)).trans ((show _ = 258 from HLt129.out).symm.trans (ics_size _).symm))) (ics_one _) ?_; generalize hw : World.setRow _ _ _ = w10_; have n_ : Aside0 (MS w w10_ [.box gb3 47 (ics t129), .box gb2 35 (ics (List.replicate 7 0)), .box gb1 35 (ics (List.replicate 7 0))]) := ⟨by rw [← hw]; exact HM.out.setRow 0 rfl _⟩; clear HM hw; have HM := n_; clear n_))
    go_loopg [6] k (fun kq v6 w' => ∃ (x6_11 : Int) (m2_11 : List Int), v6 = .int .i64 x6_11 ∧ Aside0 (spec_WindingsOf.l0 kq x6_11 t129 m2_11 = some (r1, r2)) ∧ Aside0 (kq ≤ k) ∧ Aside0 (m2_11.length = 7) ∧ Aside0 (MS w w' [.box gb3 47 (ics t129), .box gb2 35 (ics m2_11), .box gb1 35 (ics (List.replicate 7 0))]))
    case atStart => exact ⟨(0), ((List.replicate 7 0)), (by first | rfl | (simp; done) | (simp [*]; done)), H', ⟨Nat.le_refl _⟩, ⟨(List.length_replicate)⟩, HM⟩
    case round =>
      clear H'
      clear HM
      obtain ⟨x6_11, m2_11, rfl, HA, HK12_, HLm2_11, HM⟩ := hrel
      cases gk with
      | zero => exact absurd HA.out (by simp [spec_WindingsOf.l0])
      | succ k13_ =>
        have H := HA.out
        clear HA
        simp only [spec_WindingsOf.l0] at H
        by_cases c14_ : x6_11 < 6
        · rw [if_pos c14_] at H
          have c14_b0 : decide (x6_11 < 6) = true := decide_eq_true c14_
          clear c14_
          by_cases c15_ : 0 ≤ x6_11
          · rw [if_pos c15_] at H
            have c15_b0 : decide (0 ≤ x6_11) = true := decide_eq_true c15_
            clear c15_
            obtain ⟨ji16_, hji16_⟩ : ∃ j_ : Int, (wrap64 (x6_11 + 1)) = j_ := ⟨_, rfl⟩
            replace H : (if 0 ≤ ji16_ then (if ji16_ < 7 then (spec_WindingsOf.l0 k13_ ji16_ t129 (m2_11.set (ji16_ : Int).toNat (t129.getD (x6_11.toNat) 0))) else (none)) else (none)) = some (r1, r2) := by first | (rw [hji16_] at H; exact H) | (simp only [hji16_] at H ⊢; exact H)
            have hji16_w : (IntKind.i64.wrap (x6_11 + 1)) = ji16_ := (i64_w _).trans hji16_
            by_cases c17_ : 0 ≤ ji16_
            · rw [if_pos c17_] at H
              have c17_b0 : decide (0 ≤ ji16_) = true := decide_eq_true c17_
              clear c17_
              by_cases c18_ : ji16_ < 7
              · rw [if_pos c18_] at H
                have c18_b0 : decide (ji16_ < 7) = true := decide_eq_true c18_
                clear c18_
                obtain ⟨y131, hy131⟩ : ∃ y_, y_ = (m2_11.set (ji16_ : Int).toNat (t129.getD (x6_11.toNat) 0)) := ⟨_, rfl⟩
                replace H : (spec_WindingsOf.l0 k13_ ji16_ t129 y131) = some (r1, r2) := by first | (rw [hy131]; with_reducible exact H) | (have H2_ := (Option.bind_some _ _).symm.trans H; rw [hy131]; with_reducible exact H2_) | (have H2_ := (Option.bind_some _ _).symm.trans H; with_reducible exact H2_) | with_reducible exact H | (rw [hy131]; exact H) | exact H
                have Ny131 := Aside0.mk hy131
                clear hy131
                have H' := Aside0.mk H
                clear H
                have p130_0 : 0 ≤ (x6_11 : Int) := of_decide_eq_true (by first | (with_reducible assumption) | assumption)
                have q130_0 : (x6_11 : Int) < 6 := of_decide_eq_true (by first | (with_reducible assumption) | assumption)
                have o130 : x6_11.toNat < t129.length := (by have h_ : t129.length = 258 := HLt129.out; rw [h_]; omega)
                have hx130 := xcellI (HM.out.box 0 rfl) (x6_11.toNat) o130
                clear o130
                replace p130_0 := eq_true p130_0
                replace q130_0 := eq_true q130_0
                have p132 : 0 ≤ (ji16_ : Int) := of_decide_eq_true (by first | (with_reducible assumption) | assumption)
                have q132 : (ji16_ : Int) < 7 := of_decide_eq_true (by first | (with_reducible assumption) | assumption)
                have hx132 := icell (HM.out.box 1 rfl) ji16_ p132 (by have := HLm2_11.out; omega)
                have hf132 := blk_frozen (HM.out.box 1 rfl) (ji16_ : Int).toNat
                replace p132 := eq_true p132
                replace q132 := eq_true q132
                go_wp2_with (first | ((with_reducible refine gate_store (t := 3) (p := 24) rfl ?_); refine store_event (t := 3) (p := 24) (v := ?vow19_) (w1 := (wr.setCell ⟨gb2, (ji16_ : Int).toNat, none⟩ (.int .i64 (t129.getD (x6_11.toNat) 0)))) ?hg ?ho ?hn ?hr ?_; (case ho => rfl); (case hg => rfl); (case hn => rfl); (case hr => first | (go_simp; done) | (go_simp; rfl)); intro w19_ hw; have n_ : Aside0 (MS w w19_ [.box gb3 47 (ics t129), .box gb2 35 (ics y131), .box gb1 35 (ics (List.replicate 7 0))]) := ⟨by rw [hw]; exact HM.out.setBox 1 rfl _ _ (by rw [ics_set, ← Ny131.out])⟩; clear HM hw; have HM := n_; clear n_))
                go_roundg k13_
                case measure => have hHK12__ := HK12_.out; omega
                case rel => exact ⟨(ji16_), (y131), (by first | rfl | (simp; done) | (simp only [← hji16_] <;> (first | rfl | simp)) | (simp [*]; done)), H', ⟨by have hHK12__ := HK12_.out; omega⟩, ⟨(show y131.length = 7 from by rw [Ny131.out, List.length_set]; exact HLm2_11.out)⟩, HM⟩
              · rw [if_neg c18_] at H
                have c18_b0 : decide (ji16_ < 7) = false := decide_eq_false c18_
                clear c18_
                exact absurd H (by simp)
            · rw [if_neg c17_] at H
              have c17_b0 : decide (0 ≤ ji16_) = false := decide_eq_false c17_
              clear c17_
              exact absurd H (by simp)
          · rw [if_neg c15_] at H
            have c15_b0 : decide (0 ≤ x6_11) = false := decide_eq_false c15_
            clear c15_
            exact absurd H (by simp)
        · rw [if_neg c14_] at H
          have c14_b0 : decide (x6_11 < 6) = false := decide_eq_false c14_
          clear c14_
          simp only [Option.some.injEq, Prod.mk.injEq] at H
          obtain ⟨rfl, rfl⟩ := H
          go_wp2_with (first | ((with_reducible refine gate_dst (N := 25) rfl ?_); refine wpList_load_row rfl _ _ rfl gb2 rfl 35 (ics m2_11) (0, 0) _ (HM.out.box 1 rfl) Try.underlying35 rfl (by rw [ics_size, HLm2_11.out]; kernel_rfl) ?_) | ((with_reducible refine gate_store (t := 35) (p := 2) rfl ?_); refine wpList_store_row rfl _ _ _ rfl gb1 (ics m2_11) rfl rfl 35 (ics (List.replicate 7 0)) (HM.out.box 2 rfl) (by rw [ics_size, HLm2_11.out]; kernel_rfl) ((ics_size _).trans (((List.length_replicate)).trans ((show _ = 7 from HLm2_11.out).symm.trans (ics_size _).symm))) (ics_one _) ?_; generalize hw : World.setRow _ _ _ = w20_; have n_ : Aside0 (MS w w20_ [.box gb3 47 (ics t129), .box gb2 35 (ics m2_11), .box gb1 35 (ics m2_11)]) := ⟨by rw [← hw]; exact HM.out.setRow 2 rfl _⟩; clear HM hw; have HM := n_; clear n_))
          refine bodyPost_ret (results_ct rfl _ _ gb1 35 (ics m2_11) (0, 0) _ rfl (HM.out.box 2 rfl) Try.underlying35 rfl (by rw [ics_size, HLm2_11.out]; kernel_rfl)) rfl ?_
          exact ⟨by first | rfl | (simp; done) | (simp [*]; done), HLm2_11.out, HM.out.below⟩
  · replace c2_ := Bool.eq_false_iff.mpr c2_
    subst c2_
    have H1 : (some (List.replicate 7 0, false)) = some (r1, r2) := by rw [if_neg (show ¬ (false = true) by decide)] at H; exact H
    clear H
    have H := H1
    clear H1
    simp only [Option.some.injEq, Prod.mk.injEq] at H
    obtain ⟨rfl, rfl⟩ := H
    go_enter Try.func21, Try.ntmps21
    go_wp2_with (first | ((with_reducible refine gate_dst (N := 2) rfl ?_); refine box_event ?hg (N := 2) ?hd (cs := (ics (List.replicate 7 0))) (t := 35) ?hr ?_; (case hd => rfl); (case hg => rfl); (case hr => first | (go_simp; done) | (go_simp; rfl)); intro gb1 hg w21_ hbox hb; have n_ := Aside0.mk (HM.out.addBox hb hbox hg); clear HM; have HM := n_; clear n_; clear hb hbox hg) | ((with_reducible refine gate_dst (N := 7) rfl ?_); refine build_zero ?hg (N := 7) ?hd (cs := (ics (List.replicate 7 0))) ?hr ?_; (case hd => rfl); (case hg => rfl); (case hr => first | (go_simp; done) | (go_simp; rfl))) | ((with_reducible refine gate_dst (N := 4) rfl ?_); refine box_event ?hg (N := 4) ?hd (cs := (ics (List.replicate 7 0))) (t := 35) ?hr ?_; (case hd => rfl); (case hg => rfl); (case hr => first | (go_simp; done) | (go_simp; rfl)); intro gb2 hg w22_ hbox hb; have n_ := Aside0.mk (HM.out.addBox hb hbox hg); clear HM; have HM := n_; clear n_; clear hb hbox hg) | ((with_reducible refine gate_store (t := 35) (p := 4) rfl ?_); refine wpList_store_row rfl _ _ _ rfl gb2 (ics (List.replicate 7 0)) rfl rfl 35 (ics (List.replicate 7 0)) (HM.out.box 0 rfl) (by rw [ics_size, (List.length_replicate)]; kernel_rfl) ((ics_size _).trans (((List.length_replicate)).trans ((show _ = 7 from (List.length_replicate)).symm.trans (ics_size _).symm))) (ics_one _) ?_; generalize hw : World.setRow _ _ _ = w23_; have n_ : Aside0 (MS w w23_ [.box gb2 35 (ics (List.replicate 7 0)), .box gb1 35 (ics (List.replicate 7 0))]) := ⟨by rw [← hw]; exact HM.out.setRow 0 rfl _⟩; clear HM hw; have HM := n_; clear n_) | ((with_reducible refine gate_callee (f := 37) rfl ?_); (with_reducible refine gate_dst (N := 9) rfl ?_); refine goesL_ (some 9) rfl rfl Try.func37 (by kernel_rfl) rfl #[.slice A0 l0.length c0] rfl (by (try simp only [List.map_toArray, List.map_cons, List.map_nil]); first | done | rfl | (simp only [List.length_drop, List.length_take]; rfl)) ?_; (with_reducible refine (spec_l2Word.calls k _ _ l0 false _ ?sd0 ?sd1 A1_.out).mono ?_); (case sd0 => exact (Kd.C_below HR0.out HM.out.below)); (case sd1 => exact HC0.out); rintro e_ w24_ ⟨rfl, hd_⟩; refine ⟨_, rfl, ?_⟩; have hb := hd_.below; clear hd_; have n_ := Aside0.mk (HM.out.step hb); clear HM; have HM := n_; clear n_; clear hb) | ((with_reducible refine gate_dst (N := 11) rfl ?_); refine wpList_load_row rfl _ _ rfl gb2 rfl 35 (ics (List.replicate 7 0)) (0, 0) _ (HM.out.box 0 rfl) Try.underlying35 rfl (by rw [ics_size, (List.length_replicate)]; kernel_rfl) ?_) | ((with_reducible refine gate_store (t := 35) (p := 2) rfl ?_); refine wpList_store_row rfl _ _ _ rfl gb1 (ics (List.replicate 7 0)) rfl rfl 35 (ics (List.replicate 7 0)) (HM.out.box 1 rfl) (by rw [ics_size, (List.length_replicate)]; kernel_rfl) ((ics_size _).trans (((List.length_replicate)).trans ((show _ = 7 from (List.length_replicate)).symm.trans (ics_size _).symm))) (ics_one _) ?_; generalize hw : World.setRow _ _ _ = w25_; have n_ : Aside0 (MS w w25_ [.box gb2 35 (ics (List.replicate 7 0)), .box gb1 35 (ics (List.replicate 7 0))]) := ⟨by rw [← hw]; exact HM.out.setRow 1 rfl _⟩; clear HM hw; have HM := n_; clear n_))
    refine bodyPost_ret (results_ct rfl _ _ gb1 35 (ics (List.replicate 7 0)) (0, 0) _ rfl (HM.out.box 1 rfl) Try.underlying35 rfl (by rw [ics_size, (List.length_replicate)]; kernel_rfl)) rfl ?_
    exact ⟨by first | rfl | (simp; done) | (simp [*]; done), (List.length_replicate), HM.out.below⟩

/-! ### impl_isLetter: function 49 -/
def impl_isLetter.f (a0 : Int) : Option (Bool) := if a0 = 0 then (some false) else (if a0 ≥ (-6) then (some (decide (a0 ≤ 6))) else (some false))
set_option maxHeartbeats 8000000 in
set_option maxRecDepth 100000 in
theorem impl_isLetter.calls (a0 : Int) (r : Bool) (w : World)  (h : impl_isLetter.f a0 = some r) :
    Calls Try.prog 49 #[.int .i64 a0] w fun e w' => e = .returned (.bool r) ∧ Drawn0 w w' := by
  have HM := Aside0.mk (MS.start w)
  have HD := Aside0.mk (Drawn0.refl w)
  have H : (if a0 = 0 then (some false) else (if a0 ≥ (-6) then (some (decide (a0 ≤ 6))) else (some false))) = some r := h
  clear h
  by_cases c1_ : a0 = 0
  · rw [if_pos c1_] at H
    have KNc1_ := Aside0.mk c1_
    have c1_b0 : (a0 == 0) = true := beq_iff_eq.mpr c1_
    have c1_b1 : (a0 != 0) = false := bne_eq_false_iff_eq.mpr c1_
    clear c1_
    obtain rfl := Option.some.inj H
    go_enter Try.func49, Try.ntmps49
    go_wp2
    go_ret
    exact ⟨by first | rfl | (simp; done) | (simp [*]; done), HD.out⟩
  · rw [if_neg c1_] at H
    have KNc1_ := Aside0.mk c1_
    have c1_b0 : (a0 == 0) = false := beq_eq_false_iff_ne.mpr c1_
    have c1_b1 : (a0 != 0) = true := bne_iff_ne.mpr c1_
    clear c1_
    by_cases c2_ : a0 ≥ (-6)
    · rw [if_pos c2_] at H
      have KNc2_ := Aside0.mk c2_
      have c2_b0 : decide ((-6) ≤ a0) = true := decide_eq_true c2_
      clear c2_
      obtain rfl := Option.some.inj H
      go_enter Try.func49, Try.ntmps49
      go_wp2
      go_ret
      exact ⟨by first | rfl | (simp; done) | (simp [*]; done), HD.out⟩
    · rw [if_neg c2_] at H
      have KNc2_ := Aside0.mk c2_
      have c2_b0 : decide ((-6) ≤ a0) = false := decide_eq_false c2_
      clear c2_
      obtain rfl := Option.some.inj H
      go_enter Try.func49, Try.ntmps49
      go_wp2
      go_ret
      exact ⟨by first | rfl | (simp; done) | (simp [*]; done), HD.out⟩

/-! ### impl_isWord_1: function 48 -/
def impl_isWord_1.f (a0 : Int) : Option (Bool) := (impl_isLetter.f a0).bind fun t133 => (some (!t133))
set_option maxHeartbeats 8000000 in
set_option maxRecDepth 100000 in
theorem impl_isWord_1.calls (a0 : Int) (r : Bool) (w : World)  (h : impl_isWord_1.f a0 = some r) :
    Calls Try.prog 48 #[.int .i64 a0] w fun e w' => e = .returned (.bool r) ∧ Drawn0 w w' := by
  have HM := Aside0.mk (MS.start w)
  have HD := Aside0.mk (Drawn0.refl w)
  have H : ((impl_isLetter.f a0).bind fun t133 => (some (!t133))) = some r := h
  clear h
  replace H := Option.bind_eq_some_iff.mp H
  obtain ⟨t133, A1_0, H⟩ := H
  replace H : (some (!t133)) = some r := H
  have A1_ := Aside0.mk A1_0
  clear A1_0
  obtain rfl := Option.some.inj H
  go_enter Try.func48, Try.ntmps48
  go_wp2_with (first | ((with_reducible refine gate_callee (f := 49) rfl ?_); (with_reducible refine gate_dst (N := 4) rfl ?_); refine goesL_ (some 4) rfl rfl Try.func49 (by kernel_rfl) rfl #[.int .i64 a0] rfl (by (try simp only [List.map_toArray, List.map_cons, List.map_nil]); first | done | rfl | (simp only [List.length_drop, List.length_take]; rfl)) ?_; (with_reducible refine (impl_isLetter.calls a0 t133 _  A1_.out).mono ?_); rintro e_ w2_ ⟨rfl, hd_⟩; refine ⟨_, rfl, ?_⟩; have hb := hd_.below; have nd_ := Aside0.mk (HD.out.trans hd_); clear HD; have HD := nd_; clear nd_; clear hd_; have n_ := Aside0.mk (HM.out.step hb); clear HM; have HM := n_; clear n_; clear hb))
  go_ret
  exact ⟨by first | rfl | (simp; done) | (simp [*]; done), HD.out⟩

/-! ### impl_isWord: function 39 -/
def impl_isWord.f (k : Nat) (l0 : List Int) : Option (Bool) := if (l0.length : Int) ≤ 64 then ((slices_ContainsFunc_int_int.f k l0 (fun x_ => impl_isWord_1.f x_)).bind fun t135 => (some (!t135))) else (some false)
set_option maxHeartbeats 8000000 in
set_option maxRecDepth 100000 in
theorem impl_isWord.calls (k : Nat) (A0 : Option Addr) (c0 : Nat) (l0 : List Int) (r : Bool) (w : World) (hr0 : Kd.C (Kd.int .i64) w A0 l0.length l0) (hc0 : l0.length ≤ c0) (h : impl_isWord.f k l0 = some r) :
    Calls Try.prog 39 #[.slice A0 l0.length c0] w fun e w' => e = .returned (.bool r) ∧ Below w.heap.size w w' := by
  have HR0 := Aside0.mk hr0
  have HC0 := Aside0.mk hc0
  clear hr0 hc0
  have HM := Aside0.mk (MS.start w)
  have H : (if (l0.length : Int) ≤ 64 then ((slices_ContainsFunc_int_int.f k l0 (fun x_ => impl_isWord_1.f x_)).bind fun t135 => (some (!t135))) else (some false)) = some r := h
  clear h
  by_cases c1_ : (l0.length : Int) ≤ 64
  · rw [if_pos c1_] at H
    have c1_b0 : decide ((l0.length : Int) ≤ 64) = true := decide_eq_true c1_
    have c1_b1 : decide (l0.length ≤ 64) = true := decide_eq_true (by omega)
    clear c1_
    replace H := Option.bind_eq_some_iff.mp H
    obtain ⟨t135, A2_0, H⟩ := H
    replace H : (some (!t135)) = some r := H
    have A2_ := Aside0.mk A2_0
    clear A2_0
    obtain rfl := Option.some.inj H
    have fv134 := Aside0.mk (show FnB Try.prog w (.func (.func 48) #[] #[]) (fun x_ => impl_isWord_1.f x_) from FnB.mk Try.func48 rfl rfl (fun W_ hW_ x_ r_ hr_ => (show Calls Try.prog 48 #[.int .i64 x_] W_ _ from drawn_calls (impl_isWord_1.calls x_ r_ W_  hr_))))
    go_enter Try.func39, Try.ntmps39
    go_wp2_with (first | (go_at_call 47; (refine calls_of_args (args' := #[.slice A0 l0.length c0, .func (.func 48) #[] #[]]) (by first | done | rfl) ?_); (with_reducible refine (slices_ContainsFunc_int_int.calls k _ _ l0 _ (fun x_ => impl_isWord_1.f x_) t135 _ ?sd0 ?sd1 ?sd2 A2_.out).mono ?_); (case sd0 => exact (Kd.C_below HR0.out HM.out.below)); (case sd1 => exact HC0.out); (case sd2 => exact fv134.out); rintro e_ w3_ ⟨rfl, hb⟩; have n_ := Aside0.mk (HM.out.step hb); clear HM; have HM := n_; clear n_; clear hb))
    go_ret
    exact ⟨by first | rfl | (simp; done) | (simp [*]; done), HM.out.below⟩
  · rw [if_neg c1_] at H
    have c1_b0 : decide ((l0.length : Int) ≤ 64) = false := decide_eq_false c1_
    have c1_b1 : decide (l0.length ≤ 64) = false := decide_eq_false (by omega)
    clear c1_
    obtain rfl := Option.some.inj H
    go_enter Try.func39, Try.ntmps39
    go_wp2
    go_ret
    exact ⟨by first | rfl | (simp; done) | (simp [*]; done), HM.out.below⟩

/-! ### impl_WindingsOf: function 22 -/
def impl_WindingsOf.l0 : Nat → (List Int) → (Int) → (Int) → (List Int) → Option (List Int × Bool)
  | 0, _, _, _, _ => none
  | k + 1, x12, x13, x14, m2 => if x14 < x13 then (if 0 ≤ x14 then (if x14 < (x12.length : Int) then (if (rd x12 x14) > 0 then (if 0 ≤ (rd x12 x14) then (if (rd x12 x14) < 7 then (impl_WindingsOf.l0 k x12 x13 (wrap64 (x14 + 1)) (m2.set (rd x12 x14 : Int).toNat (wrap64 ((rd m2 (rd x12 x14)) + 1)))) else (none)) else (none)) else (if 0 ≤ (wrap64 (-(rd x12 x14))) then (if (wrap64 (-(rd x12 x14))) < 7 then (impl_WindingsOf.l0 k x12 x13 (wrap64 (x14 + 1)) (m2.set (wrap64 (-(rd x12 x14)) : Int).toNat (wrap64 ((rd m2 (wrap64 (-(rd x12 x14)))) - 1)))) else (none)) else (none))) else (none)) else (none)) else (some (m2, true))
def impl_WindingsOf.f (k : Nat) (l0 : List Int) : Option (List Int × Bool) := (impl_isWord.f k l0).bind fun t136 => (if t136 = true then (impl_WindingsOf.l0 k l0 (l0.length : Int) 0 (List.replicate 7 0)) else (some (List.replicate 7 0, false)))
set_option maxHeartbeats 8000000 in
set_option maxRecDepth 100000 in
theorem impl_WindingsOf.calls (k : Nat) (A0 : Option Addr) (c0 : Nat) (l0 : List Int) (r1 : List Int) (r2 : Bool) (w : World) (hr0 : Kd.C (Kd.int .i64) w A0 l0.length l0) (hc0 : l0.length ≤ c0) (h : impl_WindingsOf.f k l0 = some (r1, r2)) :
    Calls Try.prog 22 #[.slice A0 l0.length c0] w fun e w' => e = .returned (.tuple #[.agg (ics r1), .bool r2]) ∧ r1.length = 7 ∧ Below w.heap.size w w' := by
  have HR0 := Aside0.mk hr0
  have HC0 := Aside0.mk hc0
  clear hr0 hc0
  have hu25 := Try.underlying25
  have hu35 := Try.underlying35
  have HM := Aside0.mk (MS.start w)
  have H : ((impl_isWord.f k l0).bind fun t136 => (if t136 = true then (impl_WindingsOf.l0 k l0 (l0.length : Int) 0 (List.replicate 7 0)) else (some (List.replicate 7 0, false)))) = some (r1, r2) := h
  clear h
  replace H := Option.bind_eq_some_iff.mp H
  obtain ⟨t136, A1_0, H⟩ := H
  replace H : (if t136 = true then (impl_WindingsOf.l0 k l0 (l0.length : Int) 0 (List.replicate 7 0)) else (some (List.replicate 7 0, false))) = some (r1, r2) := H
  have A1_ := Aside0.mk A1_0
  clear A1_0
  by_cases c2_ : t136 = true
  · subst c2_
    have H1 : (impl_WindingsOf.l0 k l0 (l0.length : Int) 0 (List.replicate 7 0)) = some (r1, r2) := by rw [if_pos rfl] at H; exact H
    clear H
    have H := H1
    clear H1
    have H' := Aside0.mk H
    clear H
    go_enter Try.func22, Try.ntmps22
    go_wp2_with (first | ((with_reducible refine gate_dst (N := 2) rfl ?_); refine box_event ?hg (N := 2) ?hd (cs := (ics (List.replicate 7 0))) (t := 35) ?hr ?_; (case hd => rfl); (case hg => rfl); (case hr => first | (go_simp; done) | (go_simp; rfl)); intro gb1 hg w3_ hbox hb; have n_ := Aside0.mk (HM.out.addBox hb hbox hg); clear HM; have HM := n_; clear n_; clear hb hbox hg) | ((with_reducible refine gate_dst (N := 7) rfl ?_); refine build_zero ?hg (N := 7) ?hd (cs := (ics (List.replicate 7 0))) ?hr ?_; (case hd => rfl); (case hg => rfl); (case hr => first | (go_simp; done) | (go_simp; rfl))) | ((with_reducible refine gate_dst (N := 4) rfl ?_); refine box_event ?hg (N := 4) ?hd (cs := (ics (List.replicate 7 0))) (t := 35) ?hr ?_; (case hd => rfl); (case hg => rfl); (case hr => first | (go_simp; done) | (go_simp; rfl)); intro gb2 hg w4_ hbox hb; have n_ := Aside0.mk (HM.out.addBox hb hbox hg); clear HM; have HM := n_; clear n_; clear hb hbox hg) | ((with_reducible refine gate_store (t := 35) (p := 4) rfl ?_); refine wpList_store_row rfl _ _ _ rfl gb2 (ics (List.replicate 7 0)) rfl rfl 35 (ics (List.replicate 7 0)) (HM.out.box 0 rfl) (by rw [ics_size, (List.length_replicate)]; kernel_rfl) ((ics_size _).trans (((List.length_replicate)).trans ((show _ = 7 from (List.length_replicate)).symm.trans (ics_size _).symm))) (ics_one _) ?_; generalize hw : World.setRow _ _ _ = w5_; have n_ : Aside0 (MS w w5_ [.box gb2 35 (ics (List.replicate 7 0)), .box gb1 35 (ics (List.replicate 7 0))]) := ⟨by rw [← hw]; exact HM.out.setRow 0 rfl _⟩; clear HM hw; have HM := n_; clear n_) | ((with_reducible refine gate_callee (f := 39) rfl ?_); (with_reducible refine gate_dst (N := 9) rfl ?_); refine goesL_ (some 9) rfl rfl Try.func39 (by kernel_rfl) rfl #[.slice A0 l0.length c0] rfl (by (try simp only [List.map_toArray, List.map_cons, List.map_nil]); first | done | rfl | (simp only [List.length_drop, List.length_take]; rfl)) ?_; (with_reducible refine (impl_isWord.calls k _ _ l0 true _ ?sd0 ?sd1 A1_.out).mono ?_); (case sd0 => exact (Kd.C_below HR0.out HM.out.below)); (case sd1 => exact HC0.out); rintro e_ w6_ ⟨rfl, hb⟩; refine ⟨_, rfl, ?_⟩; have n_ := Aside0.mk (HM.out.step hb); clear HM; have HM := n_; clear n_; clear hb))
    go_loopg [14] k (fun kq v14 w' => ∃ (x14_7 : Int) (m2_7 : List Int), v14 = .int .i64 x14_7 ∧ Aside0 (impl_WindingsOf.l0 kq l0 (l0.length : Int) x14_7 m2_7 = some (r1, r2)) ∧ Aside0 (kq ≤ k) ∧ Aside0 (m2_7.length = 7) ∧ Aside0 (MS w w' [.box gb2 35 (ics m2_7), .box gb1 35 (ics (List.replicate 7 0))]))
    case atStart => exact ⟨(0), ((List.replicate 7 0)), (by first | rfl | (simp; done) | (simp [*]; done)), H', ⟨Nat.le_refl _⟩, ⟨(List.length_replicate)⟩, HM⟩
    case round =>
      clear H'
      clear HM
      obtain ⟨x14_7, m2_7, rfl, HA, HK8_, HLm2_7, HM⟩ := hrel
      cases gk with
      | zero => exact absurd HA.out (by simp [impl_WindingsOf.l0])
      | succ k9_ =>
        have H := HA.out
        clear HA
        simp only [impl_WindingsOf.l0] at H
        by_cases c10_ : x14_7 < (l0.length : Int)
        · rw [if_pos c10_] at H
          have c10_b0 : decide (x14_7 < (l0.length : Int)) = true := decide_eq_true c10_
          clear c10_
          by_cases c11_ : 0 ≤ x14_7
          · rw [if_pos c11_] at H
            have c11_b0 : decide (0 ≤ x14_7) = true := decide_eq_true c11_
            clear c11_
            by_cases c12_ : x14_7 < (l0.length : Int)
            · rw [if_pos c12_] at H
              have c12_b0 : decide (x14_7 < (l0.length : Int)) = true := decide_eq_true c12_
              clear c12_
              by_cases c13_ : (rd l0 x14_7) > 0
              · rw [if_pos c13_] at H
                have c13_b0 : decide (0 < (rd l0 x14_7)) = true := decide_eq_true c13_
                clear c13_
                by_cases c14_ : 0 ≤ (rd l0 x14_7)
                · rw [if_pos c14_] at H
                  have c14_b0 : decide (0 ≤ (rd l0 x14_7)) = true := decide_eq_true c14_
                  clear c14_
                  by_cases c15_ : (rd l0 x14_7) < 7
                  · rw [if_pos c15_] at H
                    have c15_b0 : decide ((rd l0 x14_7) < 7) = true := decide_eq_true c15_
                    clear c15_
                    obtain ⟨y139, hy139⟩ : ∃ y_, y_ = (m2_7.set (rd l0 x14_7 : Int).toNat (wrap64 ((rd m2_7 (rd l0 x14_7)) + 1))) := ⟨_, rfl⟩
                    replace H : (impl_WindingsOf.l0 k9_ l0 (l0.length : Int) (wrap64 (x14_7 + 1)) y139) = some (r1, r2) := by first | (rw [hy139]; with_reducible exact H) | (have H2_ := (Option.bind_some _ _).symm.trans H; rw [hy139]; with_reducible exact H2_) | (have H2_ := (Option.bind_some _ _).symm.trans H; with_reducible exact H2_) | with_reducible exact H | (rw [hy139]; exact H) | exact H
                    have Ny139 := Aside0.mk hy139
                    clear hy139
                    have H' := Aside0.mk H
                    clear H
                    have p137 : 0 ≤ (x14_7 : Int) := of_decide_eq_true (by first | (with_reducible assumption) | assumption)
                    have q137 : (x14_7 : Int) < (l0.length : Int) := of_decide_eq_true (by first | (with_reducible assumption) | assumption)
                    obtain ⟨ad137, e137, hx137⟩ := Kd.at_int HR0.out x14_7 p137 q137
                    cases e137
                    replace hx137 := (HM.out.below.cell (World.block_lt_of_cell? w _ hx137)).trans hx137
                    replace p137 := eq_true p137
                    replace q137 := eq_true q137
                    have p138 : 0 ≤ (rd l0 x14_7 : Int) := of_decide_eq_true (by first | (with_reducible assumption) | assumption)
                    have q138 : (rd l0 x14_7 : Int) < 7 := of_decide_eq_true (by first | (with_reducible assumption) | assumption)
                    have hx138 := icell (HM.out.box 0 rfl) (rd l0 x14_7) p138 (by have := HLm2_7.out; omega)
                    replace p138 := eq_true p138
                    replace q138 := eq_true q138
                    have p140 : 0 ≤ (rd l0 x14_7 : Int) := of_decide_eq_true (by first | (with_reducible assumption) | assumption)
                    have q140 : (rd l0 x14_7 : Int) < 7 := of_decide_eq_true (by first | (with_reducible assumption) | assumption)
                    have hx140 := icell (HM.out.box 0 rfl) (rd l0 x14_7) p140 (by have := HLm2_7.out; omega)
                    have hf140 := blk_frozen (HM.out.box 0 rfl) (rd l0 x14_7 : Int).toNat
                    replace p140 := eq_true p140
                    replace q140 := eq_true q140
                    go_wp2_with (first | ((with_reducible refine gate_store (t := 3) (p := 24) rfl ?_); refine store_event (t := 3) (p := 24) (v := ?vow16_) (w1 := (wr.setCell ⟨gb2, (rd l0 x14_7 : Int).toNat, none⟩ (.int .i64 (wrap64 ((rd m2_7 (rd l0 x14_7)) + 1))))) ?hg ?ho ?hn ?hr ?_; (case ho => rfl); (case hg => rfl); (case hn => rfl); (case hr => first | (go_simp; done) | (go_simp; rfl)); intro w16_ hw; have n_ : Aside0 (MS w w16_ [.box gb2 35 (ics y139), .box gb1 35 (ics (List.replicate 7 0))]) := ⟨by rw [hw]; exact HM.out.setBox 0 rfl _ _ (by rw [ics_set, ← Ny139.out])⟩; clear HM hw; have HM := n_; clear n_))
                    go_roundg k9_
                    case measure => have hHK8__ := HK8_.out; omega
                    case rel => exact ⟨(wrap64 (x14_7 + 1)), (y139), (by first | rfl | (simp; done) | (simp [*]; done)), H', ⟨by have hHK8__ := HK8_.out; omega⟩, ⟨(show y139.length = 7 from by rw [Ny139.out, List.length_set]; exact HLm2_7.out)⟩, HM⟩
                  · rw [if_neg c15_] at H
                    have c15_b0 : decide ((rd l0 x14_7) < 7) = false := decide_eq_false c15_
                    clear c15_
                    exact absurd H (by simp)
                · rw [if_neg c14_] at H
                  have c14_b0 : decide (0 ≤ (rd l0 x14_7)) = false := decide_eq_false c14_
                  clear c14_
                  exact absurd H (by simp)
              · rw [if_neg c13_] at H
                have c13_b0 : decide (0 < (rd l0 x14_7)) = false := decide_eq_false c13_
                clear c13_
                obtain ⟨ji17_, hji17_⟩ : ∃ j_ : Int, (wrap64 (-(rd l0 x14_7))) = j_ := ⟨_, rfl⟩
                replace H : (if 0 ≤ ji17_ then (if ji17_ < 7 then (impl_WindingsOf.l0 k9_ l0 (l0.length : Int) (wrap64 (x14_7 + 1)) (m2_7.set (ji17_ : Int).toNat (wrap64 ((rd m2_7 ji17_) - 1)))) else (none)) else (none)) = some (r1, r2) := by first | (rw [hji17_] at H; exact H) | (simp only [hji17_] at H ⊢; exact H)
                have hji17_w : (IntKind.i64.wrap (-(rd l0 x14_7))) = ji17_ := (i64_w _).trans hji17_
                by_cases c18_ : 0 ≤ ji17_
                · rw [if_pos c18_] at H
                  have c18_b0 : decide (0 ≤ ji17_) = true := decide_eq_true c18_
                  clear c18_
                  by_cases c19_ : ji17_ < 7
                  · rw [if_pos c19_] at H
                    have c19_b0 : decide (ji17_ < 7) = true := decide_eq_true c19_
                    clear c19_
                    obtain ⟨y142, hy142⟩ : ∃ y_, y_ = (m2_7.set (ji17_ : Int).toNat (wrap64 ((rd m2_7 ji17_) - 1))) := ⟨_, rfl⟩
                    replace H : (impl_WindingsOf.l0 k9_ l0 (l0.length : Int) (wrap64 (x14_7 + 1)) y142) = some (r1, r2) := by first | (rw [hy142]; with_reducible exact H) | (have H2_ := (Option.bind_some _ _).symm.trans H; rw [hy142]; with_reducible exact H2_) | (have H2_ := (Option.bind_some _ _).symm.trans H; with_reducible exact H2_) | with_reducible exact H | (rw [hy142]; exact H) | exact H
                    have Ny142 := Aside0.mk hy142
                    clear hy142
                    have H' := Aside0.mk H
                    clear H
                    have p137 : 0 ≤ (x14_7 : Int) := of_decide_eq_true (by first | (with_reducible assumption) | assumption)
                    have q137 : (x14_7 : Int) < (l0.length : Int) := of_decide_eq_true (by first | (with_reducible assumption) | assumption)
                    obtain ⟨ad137, e137, hx137⟩ := Kd.at_int HR0.out x14_7 p137 q137
                    cases e137
                    replace hx137 := (HM.out.below.cell (World.block_lt_of_cell? w _ hx137)).trans hx137
                    replace p137 := eq_true p137
                    replace q137 := eq_true q137
                    have p141 : 0 ≤ (ji17_ : Int) := of_decide_eq_true (by first | (with_reducible assumption) | assumption)
                    have q141 : (ji17_ : Int) < 7 := of_decide_eq_true (by first | (with_reducible assumption) | assumption)
                    have hx141 := icell (HM.out.box 0 rfl) ji17_ p141 (by have := HLm2_7.out; omega)
                    replace p141 := eq_true p141
                    replace q141 := eq_true q141
                    have p143 : 0 ≤ (ji17_ : Int) := of_decide_eq_true (by first | (with_reducible assumption) | assumption)
                    have q143 : (ji17_ : Int) < 7 := of_decide_eq_true (by first | (with_reducible assumption) | assumption)
                    have hx143 := icell (HM.out.box 0 rfl) ji17_ p143 (by have := HLm2_7.out; omega)
                    have hf143 := blk_frozen (HM.out.box 0 rfl) (ji17_ : Int).toNat
                    replace p143 := eq_true p143
                    replace q143 := eq_true q143
                    go_wp2_with (first | ((with_reducible refine gate_store (t := 3) (p := 30) rfl ?_); refine store_event (t := 3) (p := 30) (v := ?vow20_) (w1 := (wr.setCell ⟨gb2, (ji17_ : Int).toNat, none⟩ (.int .i64 (wrap64 ((rd m2_7 ji17_) - 1))))) ?hg ?ho ?hn ?hr ?_; (case ho => rfl); (case hg => rfl); (case hn => rfl); (case hr => first | (go_simp; done) | (go_simp; rfl)); intro w20_ hw; have n_ : Aside0 (MS w w20_ [.box gb2 35 (ics y142), .box gb1 35 (ics (List.replicate 7 0))]) := ⟨by rw [hw]; exact HM.out.setBox 0 rfl _ _ (by rw [ics_set, ← Ny142.out])⟩; clear HM hw; have HM := n_; clear n_))
                    go_roundg k9_
                    case measure => have hHK8__ := HK8_.out; omega
                    case rel => exact ⟨(wrap64 (x14_7 + 1)), (y142), (by first | rfl | (simp; done) | (simp only [← hji17_] <;> (first | rfl | simp)) | (simp [*]; done)), H', ⟨by have hHK8__ := HK8_.out; omega⟩, ⟨(show y142.length = 7 from by rw [Ny142.out, List.length_set]; exact HLm2_7.out)⟩, HM⟩
                  · rw [if_neg c19_] at H
                    have c19_b0 : decide (ji17_ < 7) = false := decide_eq_false c19_
                    clear c19_
                    exact absurd H (by simp)
                · rw [if_neg c18_] at H
                  have c18_b0 : decide (0 ≤ ji17_) = false := decide_eq_false c18_
                  clear c18_
                  exact absurd H (by simp)
            · rw [if_neg c12_] at H
              have c12_b0 : decide (x14_7 < (l0.length : Int)) = false := decide_eq_false c12_
              clear c12_
              exact absurd H (by simp)
          · rw [if_neg c11_] at H
            have c11_b0 : decide (0 ≤ x14_7) = false := decide_eq_false c11_
            clear c11_
            exact absurd H (by simp)
        · rw [if_neg c10_] at H
          have c10_b0 : decide (x14_7 < (l0.length : Int)) = false := decide_eq_false c10_
          clear c10_
          simp only [Option.some.injEq, Prod.mk.injEq] at H
          obtain ⟨rfl, rfl⟩ := H
          go_wp2_with (first | ((with_reducible refine gate_dst (N := 32) rfl ?_); refine wpList_load_row rfl _ _ rfl gb2 rfl 35 (ics m2_7) (0, 0) _ (HM.out.box 0 rfl) Try.underlying35 rfl (by rw [ics_size, HLm2_7.out]; kernel_rfl) ?_) | ((with_reducible refine gate_store (t := 35) (p := 2) rfl ?_); refine wpList_store_row rfl _ _ _ rfl gb1 (ics m2_7) rfl rfl 35 (ics (List.replicate 7 0)) (HM.out.box 1 rfl) (by rw [ics_size, HLm2_7.out]; kernel_rfl) ((ics_size _).trans (((List.length_replicate)).trans ((show _ = 7 from HLm2_7.out).symm.trans (ics_size _).symm))) (ics_one _) ?_; generalize hw : World.setRow _ _ _ = w21_; have n_ : Aside0 (MS w w21_ [.box gb2 35 (ics m2_7), .box gb1 35 (ics m2_7)]) := ⟨by rw [← hw]; exact HM.out.setRow 1 rfl _⟩; clear HM hw; have HM := n_; clear n_))
          refine bodyPost_ret (results_ct rfl _ _ gb1 35 (ics m2_7) (0, 0) _ rfl (HM.out.box 1 rfl) Try.underlying35 rfl (by rw [ics_size, HLm2_7.out]; kernel_rfl)) rfl ?_
          exact ⟨by first | rfl | (simp; done) | (simp [*]; done), HLm2_7.out, HM.out.below⟩
  · replace c2_ := Bool.eq_false_iff.mpr c2_
    subst c2_
    have H1 : (some (List.replicate 7 0, false)) = some (r1, r2) := by rw [if_neg (show ¬ (false = true) by decide)] at H; exact H
    clear H
    have H := H1
    clear H1
    simp only [Option.some.injEq, Prod.mk.injEq] at H
    obtain ⟨rfl, rfl⟩ := H
    go_enter Try.func22, Try.ntmps22
    go_wp2_with (first | ((with_reducible refine gate_dst (N := 2) rfl ?_); refine box_event ?hg (N := 2) ?hd (cs := (ics (List.replicate 7 0))) (t := 35) ?hr ?_; (case hd => rfl); (case hg => rfl); (case hr => first | (go_simp; done) | (go_simp; rfl)); intro gb1 hg w22_ hbox hb; have n_ := Aside0.mk (HM.out.addBox hb hbox hg); clear HM; have HM := n_; clear n_; clear hb hbox hg) | ((with_reducible refine gate_dst (N := 7) rfl ?_); refine build_zero ?hg (N := 7) ?hd (cs := (ics (List.replicate 7 0))) ?hr ?_; (case hd => rfl); (case hg => rfl); (case hr => first | (go_simp; done) | (go_simp; rfl))) | ((with_reducible refine gate_dst (N := 4) rfl ?_); refine box_event ?hg (N := 4) ?hd (cs := (ics (List.replicate 7 0))) (t := 35) ?hr ?_; (case hd => rfl); (case hg => rfl); (case hr => first | (go_simp; done) | (go_simp; rfl)); intro gb2 hg w23_ hbox hb; have n_ := Aside0.mk (HM.out.addBox hb hbox hg); clear HM; have HM := n_; clear n_; clear hb hbox hg) | ((with_reducible refine gate_store (t := 35) (p := 4) rfl ?_); refine wpList_store_row rfl _ _ _ rfl gb2 (ics (List.replicate 7 0)) rfl rfl 35 (ics (List.replicate 7 0)) (HM.out.box 0 rfl) (by rw [ics_size, (List.length_replicate)]; kernel_rfl) ((ics_size _).trans (((List.length_replicate)).trans ((show _ = 7 from (List.length_replicate)).symm.trans (ics_size _).symm))) (ics_one _) ?_; generalize hw : World.setRow _ _ _ = w24_; have n_ : Aside0 (MS w w24_ [.box gb2 35 (ics (List.replicate 7 0)), .box gb1 35 (ics (List.replicate 7 0))]) := ⟨by rw [← hw]; exact HM.out.setRow 0 rfl _⟩; clear HM hw; have HM := n_; clear n_) | ((with_reducible refine gate_callee (f := 39) rfl ?_); (with_reducible refine gate_dst (N := 9) rfl ?_); refine goesL_ (some 9) rfl rfl Try.func39 (by kernel_rfl) rfl #[.slice A0 l0.length c0] rfl (by (try simp only [List.map_toArray, List.map_cons, List.map_nil]); first | done | rfl | (simp only [List.length_drop, List.length_take]; rfl)) ?_; (with_reducible refine (impl_isWord.calls k _ _ l0 false _ ?sd0 ?sd1 A1_.out).mono ?_); (case sd0 => exact (Kd.C_below HR0.out HM.out.below)); (case sd1 => exact HC0.out); rintro e_ w25_ ⟨rfl, hb⟩; refine ⟨_, rfl, ?_⟩; have n_ := Aside0.mk (HM.out.step hb); clear HM; have HM := n_; clear n_; clear hb) | ((with_reducible refine gate_dst (N := 11) rfl ?_); refine wpList_load_row rfl _ _ rfl gb2 rfl 35 (ics (List.replicate 7 0)) (0, 0) _ (HM.out.box 0 rfl) Try.underlying35 rfl (by rw [ics_size, (List.length_replicate)]; kernel_rfl) ?_) | ((with_reducible refine gate_store (t := 35) (p := 2) rfl ?_); refine wpList_store_row rfl _ _ _ rfl gb1 (ics (List.replicate 7 0)) rfl rfl 35 (ics (List.replicate 7 0)) (HM.out.box 1 rfl) (by rw [ics_size, (List.length_replicate)]; kernel_rfl) ((ics_size _).trans (((List.length_replicate)).trans ((show _ = 7 from (List.length_replicate)).symm.trans (ics_size _).symm))) (ics_one _) ?_; generalize hw : World.setRow _ _ _ = w26_; have n_ : Aside0 (MS w w26_ [.box gb2 35 (ics (List.replicate 7 0)), .box gb1 35 (ics (List.replicate 7 0))]) := ⟨by rw [← hw]; exact HM.out.setRow 1 rfl _⟩; clear HM hw; have HM := n_; clear n_))
    refine bodyPost_ret (results_ct rfl _ _ gb1 35 (ics (List.replicate 7 0)) (0, 0) _ rfl (HM.out.box 1 rfl) Try.underlying35 rfl (by rw [ics_size, (List.length_replicate)]; kernel_rfl)) rfl ?_
    exact ⟨by first | rfl | (simp; done) | (simp [*]; done), (List.length_replicate), HM.out.below⟩

/-! ### spec_IsBalancedLoop: function 18 -/
def spec_IsBalancedLoop.f (k : Nat) (l0 : List Int) : Option (Bool × Bool) := (spec_l2Word.f k l0).bind fun t144 => (if t144 = true then ((spec_l8Of.f k l0).bind fun t145 => (some ((((t145.drop 0).take 6) == (List.replicate 6 0)), true))) else (some (false, false)))
set_option maxHeartbeats 8000000 in
set_option maxRecDepth 100000 in
theorem spec_IsBalancedLoop.calls (k : Nat) (A0 : Option Addr) (c0 : Nat) (l0 : List Int) (r1 : Bool) (r2 : Bool) (w : World) (hr0 : Kd.C (Kd.int .i64) w A0 l0.length l0) (hc0 : l0.length ≤ c0) (h : spec_IsBalancedLoop.f k l0 = some (r1, r2)) :
    Calls Try.prog 18 #[.slice A0 l0.length c0] w fun e w' => e = .returned (.tuple #[.bool r1, .bool r2]) ∧ Below w.heap.size w w' := by
  have HR0 := Aside0.mk hr0
  have HC0 := Aside0.mk hc0
  clear hr0 hc0
  have hu43 := Try.underlying43
  have hu47 := Try.underlying47
  have HM := Aside0.mk (MS.start w)
  have H : ((spec_l2Word.f k l0).bind fun t144 => (if t144 = true then ((spec_l8Of.f k l0).bind fun t145 => (some ((((t145.drop 0).take 6) == (List.replicate 6 0)), true))) else (some (false, false)))) = some (r1, r2) := h
  clear h
  replace H := Option.bind_eq_some_iff.mp H
  obtain ⟨t144, A1_0, H⟩ := H
  replace H : (if t144 = true then ((spec_l8Of.f k l0).bind fun t145 => (some ((((t145.drop 0).take 6) == (List.replicate 6 0)), true))) else (some (false, false))) = some (r1, r2) := H
  have A1_ := Aside0.mk A1_0
  clear A1_0
  by_cases c2_ : t144 = true
  · subst c2_
    have H1 : ((spec_l8Of.f k l0).bind fun t145 => (some ((((t145.drop 0).take 6) == (List.replicate 6 0)), true))) = some (r1, r2) := by rw [if_pos rfl] at H; exact H
    clear H
    have H := H1
    clear H1
    replace H := Option.bind_eq_some_iff.mp H
    obtain ⟨t145, A3_0, H⟩ := H
    replace H : (some ((((t145.drop 0).take 6) == (List.replicate 6 0)), true)) = some (r1, r2) := H
    have A3_ := Aside0.mk A3_0
    clear A3_0
    simp only [Option.some.injEq, Prod.mk.injEq] at H
    obtain ⟨rfl, rfl⟩ := H
    go_enter Try.func18, Try.ntmps18
    go_wp2_with (first | ((with_reducible refine gate_callee (f := 37) rfl ?_); (with_reducible refine gate_dst (N := 5) rfl ?_); refine goesL_ (some 5) rfl rfl Try.func37 (by kernel_rfl) rfl #[.slice A0 l0.length c0] rfl (by (try simp only [List.map_toArray, List.map_cons, List.map_nil]); first | done | rfl | (simp only [List.length_drop, List.length_take]; rfl)) ?_; (with_reducible refine (spec_l2Word.calls k _ _ l0 true _ ?sd0 ?sd1 A1_.out).mono ?_); (case sd0 => exact (Kd.C_below HR0.out HM.out.below)); (case sd1 => exact HC0.out); rintro e_ w4_ ⟨rfl, hd_⟩; refine ⟨_, rfl, ?_⟩; have hb := hd_.below; clear hd_; have n_ := Aside0.mk (HM.out.step hb); clear HM; have HM := n_; clear n_; clear hb) | ((with_reducible refine gate_callee (f := 38) rfl ?_); (with_reducible refine gate_dst (N := 8) rfl ?_); refine goesL_ (some 8) rfl rfl Try.func38 (by kernel_rfl) rfl #[.slice A0 l0.length c0] rfl (by (try simp only [List.map_toArray, List.map_cons, List.map_nil]); first | done | rfl | (simp only [List.length_drop, List.length_take]; rfl)) ?_; (with_reducible refine (spec_l8Of.calls k _ _ l0 t145 _ ?sd0 ?sd1 A3_.out).mono ?_); (case sd0 => exact (Kd.C_below HR0.out HM.out.below)); (case sd1 => exact HC0.out); rintro e_ w5_ ⟨rfl, ho0_, hb⟩; refine ⟨_, rfl, ?_⟩; have HLt145 := Aside0.mk ho0_; have n_ := Aside0.mk (HM.out.step hb); clear HM; have HM := n_; clear n_; clear hb ho0_) | ((with_reducible refine gate_dst (N := 9) rfl ?_); refine build_zero ?hg (N := 9) ?hd (cs := ics ((t145.drop 0).take 6)) ?hr ?_; (case hd => rfl); (case hg => rfl); (case hr => exact fieldA_run _ (ft := 43) (off := 0) (m := 6) rfl rfl (by kernel_rfl) (by kernel_rfl))) | ((with_reducible refine gate_dst (N := 10) rfl ?_); refine build_zero ?hg (N := 10) ?hd (cs := (ics (List.replicate 6 0))) ?hr ?_; (case hd => rfl); (case hg => rfl); (case hr => first | (go_simp; done) | (go_simp; rfl))) | ((with_reducible refine gate_dst (N := 11) rfl ?_); refine eqlI (t := 43) (e := 3) rfl rfl rfl rfl (by kernel_rfl) Try.underlying43 (by kernel_rfl) Try.underlying3 (by kernel_rfl) (by kernel_rfl) (show ((t145.drop 0).take 6).length = 6 from by have h_ : t145.length = 258 := HLt145.out; rw [List.length_take, List.length_drop, h_]; rfl) (List.length_replicate) ?_))
    go_ret2
    exact ⟨by first | rfl | (simp; done) | (simp [*]; done), HM.out.below⟩
  · replace c2_ := Bool.eq_false_iff.mpr c2_
    subst c2_
    have H1 : (some (false, false)) = some (r1, r2) := by rw [if_neg (show ¬ (false = true) by decide)] at H; exact H
    clear H
    have H := H1
    clear H1
    simp only [Option.some.injEq, Prod.mk.injEq] at H
    obtain ⟨rfl, rfl⟩ := H
    go_enter Try.func18, Try.ntmps18
    go_wp2_with (first | ((with_reducible refine gate_callee (f := 37) rfl ?_); (with_reducible refine gate_dst (N := 5) rfl ?_); refine goesL_ (some 5) rfl rfl Try.func37 (by kernel_rfl) rfl #[.slice A0 l0.length c0] rfl (by (try simp only [List.map_toArray, List.map_cons, List.map_nil]); first | done | rfl | (simp only [List.length_drop, List.length_take]; rfl)) ?_; (with_reducible refine (spec_l2Word.calls k _ _ l0 false _ ?sd0 ?sd1 A1_.out).mono ?_); (case sd0 => exact (Kd.C_below HR0.out HM.out.below)); (case sd1 => exact HC0.out); rintro e_ w6_ ⟨rfl, hd_⟩; refine ⟨_, rfl, ?_⟩; have hb := hd_.below; clear hd_; have n_ := Aside0.mk (HM.out.step hb); clear HM; have HM := n_; clear n_; clear hb))
    go_ret2
    exact ⟨by first | rfl | (simp; done) | (simp [*]; done), HM.out.below⟩

/-! ### impl_IsBalancedLoop: function 20 -/
def impl_IsBalancedLoop.f (k : Nat) (l0 : List Int) : Option (Bool × Bool) := (impl_WindingsOf.f k l0).bind fun bt146 => (if bt146.2 = true then (some ((bt146.1 == (List.replicate 7 0)), bt146.2)) else (some (false, bt146.2)))
set_option maxHeartbeats 8000000 in
set_option maxRecDepth 100000 in
theorem impl_IsBalancedLoop.calls (k : Nat) (A0 : Option Addr) (c0 : Nat) (l0 : List Int) (r1 : Bool) (r2 : Bool) (w : World) (hr0 : Kd.C (Kd.int .i64) w A0 l0.length l0) (hc0 : l0.length ≤ c0) (h : impl_IsBalancedLoop.f k l0 = some (r1, r2)) :
    Calls Try.prog 20 #[.slice A0 l0.length c0] w fun e w' => e = .returned (.tuple #[.bool r1, .bool r2]) ∧ Below w.heap.size w w' := by
  have HR0 := Aside0.mk hr0
  have HC0 := Aside0.mk hc0
  clear hr0 hc0
  have hu35 := Try.underlying35
  have HM := Aside0.mk (MS.start w)
  have H : ((impl_WindingsOf.f k l0).bind fun bt146 => (if bt146.2 = true then (some ((bt146.1 == (List.replicate 7 0)), bt146.2)) else (some (false, bt146.2)))) = some (r1, r2) := h
  clear h
  replace H := Option.bind_eq_some_iff.mp H
  obtain ⟨⟨t146, t147⟩, A1_0, H⟩ := H
  replace H : (if t147 = true then (some ((t146 == (List.replicate 7 0)), t147)) else (some (false, t147))) = some (r1, r2) := H
  have A1_ := Aside0.mk A1_0
  clear A1_0
  by_cases c2_ : t147 = true
  · subst c2_
    have H1 : (some ((t146 == (List.replicate 7 0)), true)) = some (r1, r2) := by rw [if_pos rfl] at H; exact H
    clear H
    have H := H1
    clear H1
    simp only [Option.some.injEq, Prod.mk.injEq] at H
    obtain ⟨rfl, rfl⟩ := H
    go_enter Try.func20, Try.ntmps20
    go_wp2_with (first | ((with_reducible refine gate_callee (f := 22) rfl ?_); (with_reducible refine gate_dst (N := 8) rfl ?_); refine goesL_ (some 8) rfl rfl Try.func22 (by kernel_rfl) rfl #[.slice A0 l0.length c0] rfl (by (try simp only [List.map_toArray, List.map_cons, List.map_nil]); first | done | rfl | (simp only [List.length_drop, List.length_take]; rfl)) ?_; (with_reducible refine (impl_WindingsOf.calls k _ _ l0 t146 true _ ?sd0 ?sd1 A1_.out).mono ?_); (case sd0 => exact (Kd.C_below HR0.out HM.out.below)); (case sd1 => exact HC0.out); rintro e_ w3_ ⟨rfl, ho0_, hb⟩; refine ⟨_, rfl, ?_⟩; have HLt146 := Aside0.mk ho0_; have n_ := Aside0.mk (HM.out.step hb); clear HM; have HM := n_; clear n_; clear hb ho0_) | ((with_reducible refine gate_dst (N := 4) rfl ?_); refine box_event ?hg (N := 4) ?hd (cs := (ics (List.replicate 7 0))) (t := 35) ?hr ?_; (case hd => rfl); (case hg => rfl); (case hr => first | (go_simp; done) | (go_simp; rfl)); intro gb1 hg w4_ hbox hb; have n_ := Aside0.mk (HM.out.addBox hb hbox hg); clear HM; have HM := n_; clear n_; clear hb hbox hg) | ((with_reducible refine gate_store (t := 35) (p := 4) rfl ?_); refine wpList_store_row rfl _ _ _ rfl gb1 (ics t146) rfl rfl 35 (ics (List.replicate 7 0)) (HM.out.box 0 rfl) (by rw [ics_size, HLt146.out]; kernel_rfl) ((ics_size _).trans (((List.length_replicate)).trans ((show _ = 7 from HLt146.out).symm.trans (ics_size _).symm))) (ics_one _) ?_; generalize hw : World.setRow _ _ _ = w5_; have n_ : Aside0 (MS w w5_ [.box gb1 35 (ics t146)]) := ⟨by rw [← hw]; exact HM.out.setRow 0 rfl _⟩; clear HM hw; have HM := n_; clear n_) | (refine unguard (by (refine wanted_on (t := 12) rfl rfl rfl ?_); first | rfl | (simp [*]; done)) ?_; dsimp only; (with_reducible refine gate_dst (N := 13) rfl ?_); refine wpList_load_row rfl _ _ rfl gb1 rfl 35 (ics t146) (0, 0) _ (HM.out.box 0 rfl) Try.underlying35 rfl (by rw [ics_size, HLt146.out]; kernel_rfl) ?_) | (refine unguard (by (refine wanted_on (t := 12) rfl rfl rfl ?_); first | rfl | (simp [*]; done)) ?_; dsimp only; (with_reducible refine gate_dst (N := 14) rfl ?_); refine build_zero ?hg (N := 14) ?hd (cs := (ics (List.replicate 7 0))) ?hr ?_; (case hd => rfl); (case hg => rfl); (case hr => first | (go_simp; done) | (go_simp; rfl))) | (refine unguard (by (refine wanted_on (t := 12) rfl rfl rfl ?_); first | rfl | (simp [*]; done)) ?_; dsimp only; (with_reducible refine gate_dst (N := 15) rfl ?_); refine eqlI (t := 35) (e := 3) rfl rfl rfl rfl (by kernel_rfl) Try.underlying35 (by kernel_rfl) Try.underlying3 (by kernel_rfl) (by kernel_rfl) HLt146.out (List.length_replicate) ?_))
    go_ret2
    exact ⟨by first | rfl | (simp; done) | (simp [*]; done), HM.out.below⟩
  · replace c2_ := Bool.eq_false_iff.mpr c2_
    subst c2_
    have H1 : (some (false, false)) = some (r1, r2) := by rw [if_neg (show ¬ (false = true) by decide)] at H; exact H
    clear H
    have H := H1
    clear H1
    simp only [Option.some.injEq, Prod.mk.injEq] at H
    obtain ⟨rfl, rfl⟩ := H
    go_enter Try.func20, Try.ntmps20
    go_wp2_with (first | ((with_reducible refine gate_callee (f := 22) rfl ?_); (with_reducible refine gate_dst (N := 8) rfl ?_); refine goesL_ (some 8) rfl rfl Try.func22 (by kernel_rfl) rfl #[.slice A0 l0.length c0] rfl (by (try simp only [List.map_toArray, List.map_cons, List.map_nil]); first | done | rfl | (simp only [List.length_drop, List.length_take]; rfl)) ?_; (with_reducible refine (impl_WindingsOf.calls k _ _ l0 t146 false _ ?sd0 ?sd1 A1_.out).mono ?_); (case sd0 => exact (Kd.C_below HR0.out HM.out.below)); (case sd1 => exact HC0.out); rintro e_ w6_ ⟨rfl, ho0_, hb⟩; refine ⟨_, rfl, ?_⟩; have HLt146 := Aside0.mk ho0_; have n_ := Aside0.mk (HM.out.step hb); clear HM; have HM := n_; clear n_; clear hb ho0_) | ((with_reducible refine gate_dst (N := 4) rfl ?_); refine box_event ?hg (N := 4) ?hd (cs := (ics (List.replicate 7 0))) (t := 35) ?hr ?_; (case hd => rfl); (case hg => rfl); (case hr => first | (go_simp; done) | (go_simp; rfl)); intro gb1 hg w7_ hbox hb; have n_ := Aside0.mk (HM.out.addBox hb hbox hg); clear HM; have HM := n_; clear n_; clear hb hbox hg) | ((with_reducible refine gate_store (t := 35) (p := 4) rfl ?_); refine wpList_store_row rfl _ _ _ rfl gb1 (ics t146) rfl rfl 35 (ics (List.replicate 7 0)) (HM.out.box 0 rfl) (by rw [ics_size, HLt146.out]; kernel_rfl) ((ics_size _).trans (((List.length_replicate)).trans ((show _ = 7 from HLt146.out).symm.trans (ics_size _).symm))) (ics_one _) ?_; generalize hw : World.setRow _ _ _ = w8_; have n_ : Aside0 (MS w w8_ [.box gb1 35 (ics t146)]) := ⟨by rw [← hw]; exact HM.out.setRow 0 rfl _⟩; clear HM hw; have HM := n_; clear n_))
    go_ret2
    exact ⟨by first | rfl | (simp; done) | (simp [*]; done), HM.out.below⟩

end Go.Proofs.Ytajphpfbihilmaa.Q
