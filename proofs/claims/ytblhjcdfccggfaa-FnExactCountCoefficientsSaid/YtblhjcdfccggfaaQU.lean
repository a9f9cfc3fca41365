-- Written by a program of this session's own (wip/wgen.py): what functions of the program compute, and that they do.
import Derived.Below
import Derived.Deep.Draws
import Derived.Deep.AppendLies
import Derived.Maps.AppendAt
import Derived.OwnWalk
import Derived.Laws.BytesArg
import Derived.Laws.MakeOwn
import Derived.Laws.OwnMore
import Derived.Deep.OwnRows
import Derived.Tactics
import Derived.Lib.ConvBytes
import Derived.Laws.Slices
import Derived.WalkKit
import Derived.KernelRfl
import Derived.RowKit3
import Derived.Deep.LoopGhost
import Derived.Deep.QuietTactic
import Derived.BigQuiet
import Derived.WideLaws
import Derived.Deep.DeepCutAuto
import Derived.Deep.CutBlock
import Derived.Deep.RegionHeld3
import Derived.Laws.Rows
import Derived.Lib.AppendStr
import Derived.ArgAppend
import Derived.Laws.IdiomCopy
import Derived.OrdersHeld
import Derived.Laws.BitsLemmas
import Derived.RowKit
import Derived.Lib.SliceRun
import Derived.Test.YtblhjcdfccggfaaHM
import Derived.Test.YtblhjcdfccggfaaRG
import Derived.Test.YtblhjcdfccggfaaProg
import Derived.Test.YtblhjcdfccggfaaK1
import Derived.Test.YtblhjcdfccggfaaK2
import Derived.Test.YtblhjcdfccggfaaKL1
import Derived.Test.YtblhjcdfccggfaaQI
import Derived.Test.YtblhjcdfccggfaaCO
import Derived.Test.YtblhjcdfccggfaaQL
namespace Go.Proofs.Ytblhjcdfccggfaa.Q
open Go.RowKit Go.Proofs.YtblhjcdfccggfaaW.PrintWords Go.Proofs.YtblhjcdfccggfaaW.PrintLast Go.Proofs.YtblhjcdfccggfaaW.PrintMore Go.Proofs.YtblhjcdfccggfaaM Go.Proofs.Ytblhjcdfccggfaa.K Go.Proofs.Ytblhjcdfccggfaa.KL
attribute [local go_sem] max2_int min2_int max_two min_two max_three min_three max_four min_four
set_option linter.unusedVariables false
set_option linter.unusedSimpArgs false

/-! ### impl_CountCoefficients: function 21 -/
mutual
def impl_CountCoefficients.l0 : Nat → (List (List Int)) → (Int) → (List Int) → Option (List Int × Bool)
  | 0, _, _, _ => none
  | k + 1, x15, x17, m2 => if x17 < 4 then (if 0 ≤ x17 then (impl_CountCoefficients.l1 k x17 x15 x17 (rdOf [] x15 x17) ((rdOf [] x15 x17).length : Int) 0 m2) else (none)) else (some (m2, true))
def impl_CountCoefficients.l1 : Nat → (Int) → (List (List Int)) → (Int) → (List Int) → (Int) → (Int) → (List Int) → Option (List Int × Bool)
  | 0, _, _, _, _, _, _, _ => none
  | k + 1, x5, x15, x17, x23, x24, x25, m2 => if x25 < x24 then (if 0 ≤ x25 then (if x25 < (x23.length : Int) then (if (rd x23 x25) = 0 then (impl_CountCoefficients.l1 k x5 x15 x17 x23 x24 (wrap64 (x25 + 1)) m2) else (if 0 ≤ x5 then (if x5 < 4 then (impl_CountCoefficients.l1 k x5 x15 x17 x23 x24 (wrap64 (x25 + 1)) (m2.set (x5 : Int).toNat (wrap64 ((rd m2 x5) + 1)))) else (none)) else (none))) else (none)) else (none)) else (impl_CountCoefficients.l0 k x15 (wrap64 (x17 + 1)) m2)
end
def impl_CountCoefficients.f (k : Nat) (l0 : List Int) : Option (List Int × Bool) := (impl_isWord.f k l0).bind fun t101 => (if t101 = true then ((impl_coefficientsOf.f k l0).bind fun t102 => (impl_CountCoefficients.l0 k t102 0 (List.replicate 4 0))) else (some (List.replicate 4 0, false)))
set_option maxHeartbeats 8000000 in
set_option maxRecDepth 100000 in
theorem impl_CountCoefficients.calls (k : Nat) (A0 : Option Addr) (c0 : Nat) (l0 : List Int) (r1 : List Int) (r2 : Bool) (w : World) (hr0 : Kd.C (Kd.int .i64) w A0 l0.length l0) (hc0 : l0.length ≤ c0) (h : impl_CountCoefficients.f k l0 = some (r1, r2)) :
    Calls Try.prog 21 #[.slice A0 l0.length c0] w fun e w' => e = .returned (.tuple #[.agg (ics r1), .bool r2]) ∧ r1.length = 4 ∧ Below w.heap.size w w' := by
  have HR0 := Aside0.mk hr0
  have HC0 := Aside0.mk hc0
  clear hr0 hc0
  have hu22 := Try.underlying22
  have hu32 := Try.underlying32
  have hu63 := Try.underlying63
  have HM := Aside0.mk (MS.start w)
  have H : ((impl_isWord.f k l0).bind fun t101 => (if t101 = true then ((impl_coefficientsOf.f k l0).bind fun t102 => (impl_CountCoefficients.l0 k t102 0 (List.replicate 4 0))) else (some (List.replicate 4 0, false)))) = some (r1, r2) := h
  clear h
  replace H := Option.bind_eq_some_iff.mp H
  obtain ⟨t101, A1_0, H⟩ := H
  replace H : (if t101 = true then ((impl_coefficientsOf.f k l0).bind fun t102 => (impl_CountCoefficients.l0 k t102 0 (List.replicate 4 0))) else (some (List.replicate 4 0, false))) = some (r1, r2) := H
  have A1_ := Aside0.mk A1_0
  clear A1_0
  by_cases c2_ : t101 = true
  · subst c2_
    have H1 : ((impl_coefficientsOf.f k l0).bind fun t102 => (impl_CountCoefficients.l0 k t102 0 (List.replicate 4 0))) = some (r1, r2) := by rw [if_pos rfl] at H; exact H
    clear H
    have H := H1
    clear H1
    replace H := Option.bind_eq_some_iff.mp H
    obtain ⟨t102, A3_0, H⟩ := H
    replace H : (impl_CountCoefficients.l0 k t102 0 (List.replicate 4 0)) = some (r1, r2) := H
    have A3_ := Aside0.mk A3_0
    clear A3_0
    have H' := Aside0.mk H
    clear H
    go_enter Try.func21, Try.ntmps21
    go_wp2_with (first | ((with_reducible refine gate_dst (N := 2) rfl ?_); refine box_event ?hg (N := 2) ?hd (cs := (ics (List.replicate 4 0))) (t := 32) ?hr ?_; (case hd => rfl); (case hg => rfl); (case hr => first | (go_simp; done) | (go_simp; rfl)); intro gb1 hg w4_ hbox hb; have n_ := Aside0.mk (HM.out.addBox hb hbox hg); clear HM; have HM := n_; clear n_; clear hb hbox hg) | ((with_reducible refine gate_dst (N := 9) rfl ?_); refine build_zero ?hg (N := 9) ?hd (cs := (ics (List.replicate 4 0))) ?hr ?_; (case hd => rfl); (case hg => rfl); (case hr => first | (go_simp; done) | (go_simp; rfl))) | ((with_reducible refine gate_dst (N := 4) rfl ?_); refine box_event ?hg (N := 4) ?hd (cs := (ics (List.replicate 4 0))) (t := 32) ?hr ?_; (case hd => rfl); (case hg => rfl); (case hr => first | (go_simp; done) | (go_simp; rfl)); intro gb2 hg w5_ hbox hb; have n_ := Aside0.mk (HM.out.addBox hb hbox hg); clear HM; have HM := n_; clear n_; clear hb hbox hg) | ((with_reducible refine gate_store (t := 32) (p := 4) rfl ?_); refine wpList_store_row rfl _ _ _ rfl gb2 (ics (List.replicate 4 0)) rfl rfl 32 (ics (List.replicate 4 0)) (HM.out.box 0 rfl) (by rw [ics_size, (List.length_replicate)]; kernel_rfl) ((ics_size _).trans (((List.length_replicate)).trans ((show _ = 4 from (List.length_replicate)).symm.trans (ics_size _).symm))) (ics_one _) ?_; generalize hw : World.setRow _ _ _ = w6_; have n_ : Aside0 (MS w w6_ [.box gb2 32 (ics (List.replicate 4 0)), .box gb1 32 (ics (List.replicate 4 0))]) := ⟨by rw [← hw]; exact HM.out.setRow 0 rfl _⟩; clear HM hw; have HM := n_; clear n_) | ((with_reducible refine gate_callee (f := 38) rfl ?_); (with_reducible refine gate_dst (N := 11) rfl ?_); refine goesL_ (some 11) rfl rfl Try.func38 (by kernel_rfl) rfl #[.slice A0 l0.length c0] rfl (by (try simp only [List.map_toArray, List.map_cons, List.map_nil]); first | done | rfl | (simp only [List.length_drop, List.length_take]; rfl)) ?_; (with_reducible refine (impl_isWord.calls k _ _ l0 true _ ?sd0 ?sd1 A1_.out).mono ?_); (case sd0 => exact (Kd.C_below HR0.out HM.out.below)); (case sd1 => exact HC0.out); rintro e_ w7_ ⟨rfl, hb⟩; refine ⟨_, rfl, ?_⟩; have n_ := Aside0.mk (HM.out.step hb); clear HM; have HM := n_; clear n_; clear hb) | ((with_reducible refine gate_callee (f := 34) rfl ?_); (with_reducible refine gate_dst (N := 15) rfl ?_); refine goesL_ (some 15) rfl rfl Try.func34 (by kernel_rfl) rfl #[.slice A0 l0.length c0] rfl (by (try simp only [List.map_toArray, List.map_cons, List.map_nil]); first | done | rfl | (simp only [List.length_drop, List.length_take]; rfl)) ?_; (with_reducible refine (impl_coefficientsOf.calls k _ _ l0 t102 _ ?sd0 ?sd1 A3_.out).mono ?_); (case sd0 => exact (Kd.C_below HR0.out HM.out.below)); (case sd1 => exact HC0.out); rintro e_ w8_ ⟨vv0_, rfl, ho0_, hb⟩; refine ⟨_, rfl, ?_⟩; obtain ⟨hl_, gp3_, ev_, hF_⟩ := (id ho0_); subst ev_; obtain ⟨ow3, hF2_, hM_⟩ := HM.out.addRo hb hF_; have HRh3 := Aside0.mk hF2_; have HCh3 := Aside0.mk hl_; have n_ := Aside0.mk hM_; clear HM hF_ hF2_ hl_ hM_; have HM := n_; clear n_; clear hb ho0_))
    go_loopg [17] k (fun kq v17 w' => ∃ (x17_9 : Int) (m2_9 : List Int), v17 = .int .i64 x17_9 ∧ Aside0 (impl_CountCoefficients.l0 kq t102 x17_9 m2_9 = some (r1, r2)) ∧ Aside0 (kq ≤ k) ∧ Aside0 (m2_9.length = 4) ∧ Aside0 (MS w w' [.any ow3 (Agree ow3 w8_), .box gb2 32 (ics m2_9), .box gb1 32 (ics (List.replicate 4 0))]))
    case atStart => exact ⟨(0), ((List.replicate 4 0)), (by first | rfl | (simp; done) | (simp only [i64_w]; done) | (simp [i64_w]; done) | (simp [*]; done)), H', ⟨Nat.le_refl _⟩, ⟨(List.length_replicate)⟩, HM⟩
    case round =>
      clear H'
      clear HM
      obtain ⟨x17_9, m2_9, rfl, HA, HK10_, HLm2_9, HM⟩ := hrel
      cases gk with
      | zero => exact absurd HA.out (by simp [impl_CountCoefficients.l0])
      | succ k11_ =>
        have H := HA.out
        clear HA
        simp only [impl_CountCoefficients.l0] at H
        by_cases c12_ : x17_9 < 4
        · rw [if_pos c12_] at H
          have c12_b0 : decide (x17_9 < 4) = true := decide_eq_true c12_
          clear c12_
          by_cases c13_ : 0 ≤ x17_9
          · rw [if_pos c13_] at H
            have c13_b0 : decide (0 ≤ x17_9) = true := decide_eq_true c13_
            clear c13_
            have H' := Aside0.mk H
            clear H
            go_wp2
            have p103 : 0 ≤ (x17_9 : Int) := of_decide_eq_true (by first | (with_reducible assumption) | assumption)
            have q103 : (x17_9 : Int) < 4 := of_decide_eq_true (by first | (with_reducible assumption) | assumption)
            obtain ⟨ad103, Ae103, ce103, e103, hx103, hle103, hC103, hy103⟩ := held_elem HRh3.out (HM.out.any 0 rfl) x17_9 p103 q103
            obtain rfl : ⟨gp3_, 0, none⟩ = ad103 := (by injection e103)
            have HY103 := Aside0.mk hy103
            clear hy103
            rw [add_plain] at hx103
            have HRe103 := Aside0.mk hC103
            have HCe103 := Aside0.mk hle103
            clear hC103 hle103
            replace p103 := eq_true p103
            replace q103 := eq_true q103
            go_quiet (fail)
            generalize hw : World.drewN _ _ = w14_
            have n_ := Aside0.mk (HM.out.step (show Below _ _ w14_ from hw ▸ pw_below_drewN (Below.refl _ _) _))
            clear HM hw
            have HM := n_
            clear n_
            go_wp2
            go_loopg [25] k11_ (fun kq v25 w' => ∃ (x25_15 : Int) (m2_15 : List Int), v25 = .int .i64 x25_15 ∧ Aside0 (impl_CountCoefficients.l1 kq x17_9 t102 x17_9 (rdOf [] t102 x17_9) ((rdOf [] t102 x17_9).length : Int) x25_15 m2_15 = some (r1, r2)) ∧ Aside0 (kq ≤ k11_) ∧ Aside0 (m2_15.length = 4) ∧ Aside0 (MS w w' [.any ow3 (Agree ow3 w8_), .box gb2 32 (ics m2_15), .box gb1 32 (ics (List.replicate 4 0))]))
            case atStart => exact ⟨(0), (m2_9), (by first | rfl | (simp; done) | (simp only [i64_w]; done) | (simp [i64_w]; done) | (simp [*]; done)), H', ⟨Nat.le_refl _⟩, ⟨HLm2_9.out⟩, HM⟩
            case round =>
              clear H'
              clear HM
              obtain ⟨x25_15, m2_15, rfl, HA, HK16_, HLm2_15, HM⟩ := hrel
              cases gk with
              | zero => exact absurd HA.out (by simp [impl_CountCoefficients.l1])
              | succ k17_ =>
                have H := HA.out
                clear HA
                simp only [impl_CountCoefficients.l1] at H
                by_cases c18_ : x25_15 < ((rdOf [] t102 x17_9).length : Int)
                · rw [if_pos c18_] at H
                  have c18_b0 : decide (x25_15 < ((rdOf [] t102 x17_9).length : Int)) = true := decide_eq_true c18_
                  clear c18_
                  by_cases c19_ : 0 ≤ x25_15
                  · rw [if_pos c19_] at H
                    have c19_b0 : decide (0 ≤ x25_15) = true := decide_eq_true c19_
                    clear c19_
                    by_cases c20_ : x25_15 < ((rdOf [] t102 x17_9).length : Int)
                    · rw [if_pos c20_] at H
                      have c20_b0 : decide (x25_15 < ((rdOf [] t102 x17_9).length : Int)) = true := decide_eq_true c20_
                      clear c20_
                      by_cases c21_ : (rd (rdOf [] t102 x17_9) x25_15) = 0
                      · rw [if_pos c21_] at H
                        have c21_b0 : ((rd (rdOf [] t102 x17_9) x25_15) == 0) = true := beq_iff_eq.mpr c21_
                        have c21_b1 : ((rd (rdOf [] t102 x17_9) x25_15) != 0) = false := bne_eq_false_iff_eq.mpr c21_
                        clear c21_
                        have H' := Aside0.mk H
                        clear H
                        have p104 : 0 ≤ (x25_15 : Int) := of_decide_eq_true (by first | (with_reducible assumption) | assumption)
                        have q104 : (x25_15 : Int) < ((rdOf [] t102 x17_9).length : Int) := of_decide_eq_true (by first | (with_reducible assumption) | assumption)
                        obtain ⟨ad104, e104, hx104⟩ := Kd.at_int (HM.out.heldC 0 rfl HRe103.out) x25_15 p104 q104
                        cases e104
                        replace p104 := eq_true p104
                        replace q104 := eq_true q104
                        go_wp2
                        go_roundg k17_
                        case measure => have hHK10__ := HK10_.out; have hHK16__ := HK16_.out; omega
                        case rel => exact ⟨(wrap64 (x25_15 + 1)), (m2_15), (by first | rfl | (simp; done) | (simp only [i64_w]; done) | (simp [i64_w]; done) | (simp [*]; done)), H', ⟨by have hHK10__ := HK10_.out; have hHK16__ := HK16_.out; omega⟩, ⟨HLm2_15.out⟩, HM⟩
                      · rw [if_neg c21_] at H
                        have c21_b0 : ((rd (rdOf [] t102 x17_9) x25_15) == 0) = false := beq_eq_false_iff_ne.mpr c21_
                        have c21_b1 : ((rd (rdOf [] t102 x17_9) x25_15) != 0) = true := bne_iff_ne.mpr c21_
                        clear c21_
                        by_cases c22_ : 0 ≤ x17_9
                        · rw [if_pos c22_] at H
                          have c22_b0 : decide (0 ≤ x17_9) = true := decide_eq_true c22_
                          clear c22_
                          by_cases c23_ : x17_9 < 4
                          · rw [if_pos c23_] at H
                            have c23_b0 : decide (x17_9 < 4) = true := decide_eq_true c23_
                            clear c23_
                            obtain ⟨y106, hy106⟩ : ∃ y_, y_ = (m2_15.set (x17_9 : Int).toNat (wrap64 ((rd m2_15 x17_9) + 1))) := ⟨_, rfl⟩
                            replace H : (impl_CountCoefficients.l1 k17_ x17_9 t102 x17_9 (rdOf [] t102 x17_9) ((rdOf [] t102 x17_9).length : Int) (wrap64 (x25_15 + 1)) y106) = some (r1, r2) := by first | (rw [hy106]; with_reducible exact H) | (have H2_ := (Option.bind_some _ _).symm.trans H; rw [hy106]; with_reducible exact H2_) | (have H2_ := (Option.bind_some _ _).symm.trans H; with_reducible exact H2_) | with_reducible exact H | (rw [hy106]; exact H) | exact H
                            have Ny106 := Aside0.mk hy106
                            clear hy106
                            have H' := Aside0.mk H
                            clear H
                            have p104 : 0 ≤ (x25_15 : Int) := of_decide_eq_true (by first | (with_reducible assumption) | assumption)
                            have q104 : (x25_15 : Int) < ((rdOf [] t102 x17_9).length : Int) := of_decide_eq_true (by first | (with_reducible assumption) | assumption)
                            obtain ⟨ad104, e104, hx104⟩ := Kd.at_int (HM.out.heldC 0 rfl HRe103.out) x25_15 p104 q104
                            cases e104
                            replace p104 := eq_true p104
                            replace q104 := eq_true q104
                            have p105 : 0 ≤ (x17_9 : Int) := of_decide_eq_true (by first | (with_reducible assumption) | assumption)
                            have q105 : (x17_9 : Int) < 4 := of_decide_eq_true (by first | (with_reducible assumption) | assumption)
                            have hx105 := icell (HM.out.box 1 rfl) x17_9 p105 (by have := HLm2_15.out; omega)
                            replace p105 := eq_true p105
                            replace q105 := eq_true q105
                            have p107 : 0 ≤ (x17_9 : Int) := of_decide_eq_true (by first | (with_reducible assumption) | assumption)
                            have q107 : (x17_9 : Int) < 4 := of_decide_eq_true (by first | (with_reducible assumption) | assumption)
                            have hx107 := icell (HM.out.box 1 rfl) x17_9 p107 (by have := HLm2_15.out; omega)
                            have hf107 := blk_frozen (HM.out.box 1 rfl) (x17_9 : Int).toNat
                            replace p107 := eq_true p107
                            replace q107 := eq_true q107
                            go_wp2_with (first | ((with_reducible refine gate_store (t := 3) (p := 35) rfl ?_); refine store_event (t := 3) (p := 35) (v := ?vow24_) (w1 := (wr.setCell ⟨gb2, (x17_9 : Int).toNat, none⟩ (.int .i64 (wrap64 ((rd m2_15 x17_9) + 1))))) ?hg ?ho ?hn ?hr ?_; (case ho => rfl); (case hg => rfl); (case hn => rfl); (case hr => first | (go_simp; done) | (go_simp; rfl)); intro w24_ hw; have n_ : Aside0 (MS w w24_ [.any ow3 (Agree ow3 w8_), .box gb2 32 (ics y106), .box gb1 32 (ics (List.replicate 4 0))]) := ⟨by rw [hw]; exact HM.out.setBox 1 rfl _ _ (by rw [ics_set, ← Ny106.out])⟩; clear HM hw; have HM := n_; clear n_))
                            go_roundg k17_
                            case measure => have hHK10__ := HK10_.out; have hHK16__ := HK16_.out; omega
                            case rel => exact ⟨(wrap64 (x25_15 + 1)), (y106), (by first | rfl | (simp; done) | (simp only [i64_w]; done) | (simp [i64_w]; done) | (simp [*]; done)), H', ⟨by have hHK10__ := HK10_.out; have hHK16__ := HK16_.out; omega⟩, ⟨(show y106.length = 4 from by rw [Ny106.out, List.length_set]; exact HLm2_15.out)⟩, HM⟩
                          · rw [if_neg c23_] at H
                            have c23_b0 : decide (x17_9 < 4) = false := decide_eq_false c23_
                            clear c23_
                            exact absurd H (by simp)
                        · rw [if_neg c22_] at H
                          have c22_b0 : decide (0 ≤ x17_9) = false := decide_eq_false c22_
                          clear c22_
                          exact absurd H (by simp)
                    · rw [if_neg c20_] at H
                      have c20_b0 : decide (x25_15 < ((rdOf [] t102 x17_9).length : Int)) = false := decide_eq_false c20_
                      clear c20_
                      exact absurd H (by simp)
                  · rw [if_neg c19_] at H
                    have c19_b0 : decide (0 ≤ x25_15) = false := decide_eq_false c19_
                    clear c19_
                    exact absurd H (by simp)
                · rw [if_neg c18_] at H
                  have c18_b0 : decide (x25_15 < ((rdOf [] t102 x17_9).length : Int)) = false := decide_eq_false c18_
                  clear c18_
                  have H' := Aside0.mk H
                  clear H
                  go_wp2
                  go_roundg k17_
                  case measure => have hHK10__ := HK10_.out; have hHK16__ := HK16_.out; omega
                  case rel => exact ⟨(wrap64 (x17_9 + 1)), (m2_15), (by first | rfl | (simp; done) | (simp only [i64_w]; done) | (simp [i64_w]; done) | (simp [*]; done)), H', ⟨by have hHK10__ := HK10_.out; have hHK16__ := HK16_.out; omega⟩, ⟨HLm2_15.out⟩, HM⟩
          · rw [if_neg c13_] at H
            have c13_b0 : decide (0 ≤ x17_9) = false := decide_eq_false c13_
            clear c13_
            exact absurd H (by simp)
        · rw [if_neg c12_] at H
          have c12_b0 : decide (x17_9 < 4) = false := decide_eq_false c12_
          clear c12_
          simp only [Option.some.injEq, Prod.mk.injEq] at H
          obtain ⟨rfl, rfl⟩ := H
          go_wp2_with (first | ((with_reducible refine gate_dst (N := 38) rfl ?_); refine wpList_load_row rfl _ _ rfl gb2 rfl 32 (ics m2_9) (0, 0) _ (HM.out.box 1 rfl) Try.underlying32 rfl (by rw [ics_size, HLm2_9.out]; kernel_rfl) ?_) | ((with_reducible refine gate_store (t := 32) (p := 2) rfl ?_); refine wpList_store_row rfl _ _ _ rfl gb1 (ics m2_9) rfl rfl 32 (ics (List.replicate 4 0)) (HM.out.box 2 rfl) (by rw [ics_size, HLm2_9.out]; kernel_rfl) ((ics_size _).trans (((List.length_replicate)).trans ((show _ = 4 from HLm2_9.out).symm.trans (ics_size _).symm))) (ics_one _) ?_; generalize hw : World.setRow _ _ _ = w25_; have n_ : Aside0 (MS w w25_ [.any ow3 (Agree ow3 w8_), .box gb2 32 (ics m2_9), .box gb1 32 (ics m2_9)]) := ⟨by rw [← hw]; exact HM.out.setRow 2 rfl _⟩; clear HM hw; have HM := n_; clear n_))
          refine bodyPost_ret (results_ct rfl _ _ gb1 32 (ics m2_9) (0, 0) _ rfl (HM.out.box 2 rfl) Try.underlying32 rfl (by rw [ics_size, HLm2_9.out]; kernel_rfl)) rfl ?_
          exact ⟨by first | rfl | (simp; done) | (simp only [i64_w]; done) | (simp [i64_w]; done) | (simp [*]; done), HLm2_9.out, HM.out.below⟩
  · replace c2_ := Bool.eq_false_iff.mpr c2_
    subst c2_
    have H1 : (some (List.replicate 4 0, false)) = some (r1, r2) := by rw [if_neg (show ¬ (false = true) by decide)] at H; exact H
    clear H
    have H := H1
    clear H1
    simp only [Option.some.injEq, Prod.mk.injEq] at H
    obtain ⟨rfl, rfl⟩ := H
    go_enter Try.func21, Try.ntmps21
    go_wp2_with (first | ((with_reducible refine gate_dst (N := 2) rfl ?_); refine box_event ?hg (N := 2) ?hd (cs := (ics (List.replicate 4 0))) (t := 32) ?hr ?_; (case hd => rfl); (case hg => rfl); (case hr => first | (go_simp; done) | (go_simp; rfl)); intro gb1 hg w26_ hbox hb; have n_ := Aside0.mk (HM.out.addBox hb hbox hg); clear HM; have HM := n_; clear n_; clear hb hbox hg) | ((with_reducible refine gate_dst (N := 9) rfl ?_); refine build_zero ?hg (N := 9) ?hd (cs := (ics (List.replicate 4 0))) ?hr ?_; (case hd => rfl); (case hg => rfl); (case hr => first | (go_simp; done) | (go_simp; rfl))) | ((with_reducible refine gate_dst (N := 4) rfl ?_); refine box_event ?hg (N := 4) ?hd (cs := (ics (List.replicate 4 0))) (t := 32) ?hr ?_; (case hd => rfl); (case hg => rfl); (case hr => first | (go_simp; done) | (go_simp; rfl)); intro gb2 hg w27_ hbox hb; have n_ := Aside0.mk (HM.out.addBox hb hbox hg); clear HM; have HM := n_; clear n_; clear hb hbox hg) | ((with_reducible refine gate_store (t := 32) (p := 4) rfl ?_); refine wpList_store_row rfl _ _ _ rfl gb2 (ics (List.replicate 4 0)) rfl rfl 32 (ics (List.replicate 4 0)) (HM.out.box 0 rfl) (by rw [ics_size, (List.length_replicate)]; kernel_rfl) ((ics_size _).trans (((List.length_replicate)).trans ((show _ = 4 from (List.length_replicate)).symm.trans (ics_size _).symm))) (ics_one _) ?_; generalize hw : World.setRow _ _ _ = w28_; have n_ : Aside0 (MS w w28_ [.box gb2 32 (ics (List.replicate 4 0)), .box gb1 32 (ics (List.replicate 4 0))]) := ⟨by rw [← hw]; exact HM.out.setRow 0 rfl _⟩; clear HM hw; have HM := n_; clear n_) | ((with_reducible refine gate_callee (f := 38) rfl ?_); (with_reducible refine gate_dst (N := 11) rfl ?_); refine goesL_ (some 11) rfl rfl Try.func38 (by kernel_rfl) rfl #[.slice A0 l0.length c0] rfl (by (try simp only [List.map_toArray, List.map_cons, List.map_nil]); first | done | rfl | (simp only [List.length_drop, List.length_take]; rfl)) ?_; (with_reducible refine (impl_isWord.calls k _ _ l0 false _ ?sd0 ?sd1 A1_.out).mono ?_); (case sd0 => exact (Kd.C_below HR0.out HM.out.below)); (case sd1 => exact HC0.out); rintro e_ w29_ ⟨rfl, hb⟩; refine ⟨_, rfl, ?_⟩; have n_ := Aside0.mk (HM.out.step hb); clear HM; have HM := n_; clear n_; clear hb) | ((with_reducible refine gate_dst (N := 13) rfl ?_); refine wpList_load_row rfl _ _ rfl gb2 rfl 32 (ics (List.replicate 4 0)) (0, 0) _ (HM.out.box 0 rfl) Try.underlying32 rfl (by rw [ics_size, (List.length_replicate)]; kernel_rfl) ?_) | ((with_reducible refine gate_store (t := 32) (p := 2) rfl ?_); refine wpList_store_row rfl _ _ _ rfl gb1 (ics (List.replicate 4 0)) rfl rfl 32 (ics (List.replicate 4 0)) (HM.out.box 1 rfl) (by rw [ics_size, (List.length_replicate)]; kernel_rfl) ((ics_size _).trans (((List.length_replicate)).trans ((show _ = 4 from (List.length_replicate)).symm.trans (ics_size _).symm))) (ics_one _) ?_; generalize hw : World.setRow _ _ _ = w30_; have n_ : Aside0 (MS w w30_ [.box gb2 32 (ics (List.replicate 4 0)), .box gb1 32 (ics (List.replicate 4 0))]) := ⟨by rw [← hw]; exact HM.out.setRow 1 rfl _⟩; clear HM hw; have HM := n_; clear n_))
    refine bodyPost_ret (results_ct rfl _ _ gb1 32 (ics (List.replicate 4 0)) (0, 0) _ rfl (HM.out.box 1 rfl) Try.underlying32 rfl (by rw [ics_size, (List.length_replicate)]; kernel_rfl)) rfl ?_
    exact ⟨by first | rfl | (simp; done) | (simp only [i64_w]; done) | (simp [i64_w]; done) | (simp [*]; done), (List.length_replicate), HM.out.below⟩

end Go.Proofs.Ytblhjcdfccggfaa.Q
