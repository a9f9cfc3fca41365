-- Written by a program of this session's own (wip/wgen.py): what functions of the program compute, and that they do.
import Derived.Below
import Derived.Deep.Draws
import Derived.Deep.AppendLies
import Derived.Maps.AppendAt
import Derived.OwnWalk
import Derived.Laws.BytesArg
import Derived.Laws.MakeOwn
import Derived.Laws.OwnMore
import Derived.Deep.OwnRows
import Derived.Tactics
import Derived.Lib.ConvBytes
import Derived.Laws.Slices
import Derived.WalkKit
import Derived.KernelRfl
import Derived.RowKit3
import Derived.Deep.LoopGhost
import Derived.Deep.QuietTactic
import Derived.BigQuiet
import Derived.WideLaws
import Derived.Deep.DeepCutAuto
import Derived.Deep.CutBlock
import Derived.Deep.RegionHeld3
import Derived.Laws.Rows
import Derived.Lib.AppendStr
import Derived.ArgAppend
import Derived.Laws.IdiomCopy
import Derived.OrdersHeld
import Derived.Laws.BitsLemmas
import Derived.RowKit
import Derived.Lib.SliceRun
import Derived.Test.YtblhjcdfccggfaaHM
import Derived.Test.YtblhjcdfccggfaaRG
import Derived.Test.YtblhjcdfccggfaaProg
import Derived.Test.YtblhjcdfccggfaaK1
import Derived.Test.YtblhjcdfccggfaaK2
import Derived.Test.YtblhjcdfccggfaaKL1
import Derived.Test.YtblhjcdfccggfaaQI
import Derived.Test.YtblhjcdfccggfaaQ8
import Derived.Test.YtblhjcdfccggfaaQ9
namespace Go.Proofs.Ytblhjcdfccggfaa.Q
open Go.RowKit Go.Proofs.YtblhjcdfccggfaaW.PrintWords Go.Proofs.YtblhjcdfccggfaaW.PrintLast Go.Proofs.YtblhjcdfccggfaaW.PrintMore Go.Proofs.YtblhjcdfccggfaaM Go.Proofs.Ytblhjcdfccggfaa.K Go.Proofs.Ytblhjcdfccggfaa.KL
attribute [local go_sem] max2_int min2_int max_two min_two max_three min_three max_four min_four
set_option linter.unusedVariables false
set_option linter.unusedSimpArgs false

/-! ### spec_CountCoefficients: function 20 -/
mutual
def spec_CountCoefficients.l0 : Nat → (Int) → (List Int) → (List Int) → Option (List Int × Bool)
  | 0, _, _, _ => none
  | k + 1, x6, m3, m2 => if x6 ≤ 3 then ((spec_l8Lists.f k x6).bind fun t103 => (spec_CountCoefficients.l1 k x6 t103 0 m3 m2)) else (some (m2, true))
def spec_CountCoefficients.l1 : Nat → (Int) → (List (List Int)) → (Int) → (List Int) → (List Int) → Option (List Int × Bool)
  | 0, _, _, _, _, _ => none
  | k + 1, x6, x7, x8, m3, m2 => if x8 < (x7.length : Int) then (if 0 ≤ x8 then ((spec_l8Get.f m3 (rdOf [] x7 x8)).bind fun t105 => (if t105 = 0 then (spec_CountCoefficients.l1 k x6 x7 (wrap64 (x8 + 1)) m3 m2) else (if 0 ≤ x6 then (if x6 < 4 then (spec_CountCoefficients.l1 k x6 x7 (wrap64 (x8 + 1)) m3 (m2.set (x6 : Int).toNat (wrap64 ((rd m2 x6) + 1)))) else (none)) else (none)))) else (none)) else (spec_CountCoefficients.l0 k (wrap64 (x6 + 1)) m3 m2)
end
def spec_CountCoefficients.f (k : Nat) (l0 : List Int) : Option (List Int × Bool) := (spec_l2Word.f k l0).bind fun t101 => (if t101 = true then ((spec_l8Of.f k l0).bind fun t102 => (spec_CountCoefficients.l0 k 0 t102 (List.replicate 4 0))) else (some (List.replicate 4 0, false)))
set_option maxHeartbeats 8000000 in
set_option maxRecDepth 100000 in
theorem spec_CountCoefficients.calls (k : Nat) (A0 : Option Addr) (c0 : Nat) (l0 : List Int) (r1 : List Int) (r2 : Bool) (w : World) (hr0 : Kd.C (Kd.int .i64) w A0 l0.length l0) (hc0 : l0.length ≤ c0) (h : spec_CountCoefficients.f k l0 = some (r1, r2)) :
    Calls Try.prog 20 #[.slice A0 l0.length c0] w fun e w' => e = .returned (.tuple #[.agg (ics r1), .bool r2]) ∧ r1.length = 4 ∧ Below w.heap.size w w' := by
  have HR0 := Aside0.mk hr0
  have HC0 := Aside0.mk hc0
  clear hr0 hc0
  have hu22 := Try.underlying22
  have hu32 := Try.underlying32
  have hu45 := Try.underlying45
  have hu55 := Try.underlying55
  have HM := Aside0.mk (MS.start w)
  have H : ((spec_l2Word.f k l0).bind fun t101 => (if t101 = true then ((spec_l8Of.f k l0).bind fun t102 => (spec_CountCoefficients.l0 k 0 t102 (List.replicate 4 0))) else (some (List.replicate 4 0, false)))) = some (r1, r2) := h
  clear h
  replace H := Option.bind_eq_some_iff.mp H
  obtain ⟨t101, A1_0, H⟩ := H
  replace H : (if t101 = true then ((spec_l8Of.f k l0).bind fun t102 => (spec_CountCoefficients.l0 k 0 t102 (List.replicate 4 0))) else (some (List.replicate 4 0, false))) = some (r1, r2) := H
  have A1_ := Aside0.mk A1_0
  clear A1_0
  by_cases c2_ : t101 = true
  · subst c2_
    have H1 : ((spec_l8Of.f k l0).bind fun t102 => (spec_CountCoefficients.l0 k 0 t102 (List.replicate 4 0))) = some (r1, r2) := by rw [if_pos rfl] at H; exact H
    clear H
    have H := H1
    clear H1
    replace H := Option.bind_eq_some_iff.mp H
    obtain ⟨t102, A3_0, H⟩ := H
    replace H : (spec_CountCoefficients.l0 k 0 t102 (List.replicate 4 0)) = some (r1, r2) := H
    have A3_ := Aside0.mk A3_0
    clear A3_0
    have H' := Aside0.mk H
    clear H
    go_enter Try.func20, Try.ntmps20
    go_wp2_with (first | ((with_reducible refine gate_dst (N := 2) rfl ?_); refine box_event ?hg (N := 2) ?hd (cs := (ics (List.replicate 4 0))) (t := 32) ?hr ?_; (case hd => rfl); (case hg => rfl); (case hr => first | (go_simp; done) | (go_simp; rfl)); intro gb1 hg w4_ hbox hb; have n_ := Aside0.mk (HM.out.addBox hb hbox hg); clear HM; have HM := n_; clear n_; clear hb hbox hg) | ((with_reducible refine gate_dst (N := 9) rfl ?_); refine build_zero ?hg (N := 9) ?hd (cs := (ics (List.replicate 4 0))) ?hr ?_; (case hd => rfl); (case hg => rfl); (case hr => first | (go_simp; done) | (go_simp; rfl))) | ((with_reducible refine gate_dst (N := 4) rfl ?_); refine box_event ?hg (N := 4) ?hd (cs := (ics (List.replicate 4 0))) (t := 32) ?hr ?_; (case hd => rfl); (case hg => rfl); (case hr => first | (go_simp; done) | (go_simp; rfl)); intro gb2 hg w5_ hbox hb; have n_ := Aside0.mk (HM.out.addBox hb hbox hg); clear HM; have HM := n_; clear n_; clear hb hbox hg) | ((with_reducible refine gate_store (t := 32) (p := 4) rfl ?_); refine wpList_store_row rfl _ _ _ rfl gb2 (ics (List.replicate 4 0)) rfl rfl 32 (ics (List.replicate 4 0)) (HM.out.box 0 rfl) (by rw [ics_size, (List.length_replicate)]; kernel_rfl) ((ics_size _).trans (((List.length_replicate)).trans ((show _ = 4 from (List.length_replicate)).symm.trans (ics_size _).symm))) (ics_one _) ?_; generalize hw : World.setRow _ _ _ = w6_; have n_ : Aside0 (MS w w6_ [.box gb2 32 (ics (List.replicate 4 0)), .box gb1 32 (ics (List.replicate 4 0))]) := ⟨by rw [← hw]; exact HM.out.setRow 0 rfl _⟩; clear HM hw; have HM := n_; clear n_) | ((with_reducible refine gate_callee (f := 31) rfl ?_); (with_reducible refine gate_dst (N := 11) rfl ?_); refine goesL_ (some 11) rfl rfl Try.func31 (by kernel_rfl) rfl #[.slice A0 l0.length c0] rfl (by (try simp only [List.map_toArray, List.map_cons, List.map_nil]); first | done | rfl | (simp only [List.length_drop, List.length_take]; rfl)) ?_; (with_reducible refine (spec_l2Word.calls k _ _ l0 true _ ?sd0 ?sd1 A1_.out).mono ?_); (case sd0 => exact (Kd.C_below HR0.out HM.out.below)); (case sd1 => exact HC0.out); rintro e_ w7_ ⟨rfl, hd_⟩; refine ⟨_, rfl, ?_⟩; have hb := hd_.below; clear hd_; have n_ := Aside0.mk (HM.out.step hb); clear HM; have HM := n_; clear n_; clear hb) | ((with_reducible refine gate_callee (f := 30) rfl ?_); (with_reducible refine gate_dst (N := 15) rfl ?_); refine goesL_ (some 15) rfl rfl Try.func30 (by kernel_rfl) rfl #[.slice A0 l0.length c0] rfl (by (try simp only [List.map_toArray, List.map_cons, List.map_nil]); first | done | rfl | (simp only [List.length_drop, List.length_take]; rfl)) ?_; (with_reducible refine (spec_l8Of.calls k _ _ l0 t102 _ ?sd0 ?sd1 A3_.out).mono ?_); (case sd0 => exact (Kd.C_below HR0.out HM.out.below)); (case sd1 => exact HC0.out); rintro e_ w8_ ⟨rfl, ho0_, hb⟩; refine ⟨_, rfl, ?_⟩; have HLt102 := Aside0.mk ho0_; have n_ := Aside0.mk (HM.out.step hb); clear HM; have HM := n_; clear n_; clear hb ho0_) | ((with_reducible refine gate_dst (N := 5) rfl ?_); refine box_event ?hg (N := 5) ?hd (cs := (ics (List.replicate 258 0))) (t := 45) ?hr ?_; (case hd => rfl); (case hg => rfl); (case hr => first | (go_simp; done) | (go_simp; rfl)); intro gb3 hg w9_ hbox hb; have n_ := Aside0.mk (HM.out.addBox hb hbox hg); clear HM; have HM := n_; clear n_; clear hb hbox hg) | ((with_reducible refine gate_store (t := 45) (p := 5) rfl ?_); refine wpList_store_row rfl _ _ _ rfl gb3 (ics t102) rfl rfl 45 (ics (List.replicate 258 0)) (HM.out.box 0 rfl) (by rw [ics_size, HLt102.out]; kernel_rfl) ((ics_size _).trans (((List.length_replicate)).trans ((show _ = 258 from HLt102.out).symm.trans (ics_size _).symm))) (ics_one _) ?_; generalize hw : World.setRow _ _ _ = w10_; have n_ : Aside0 (MS w w10_ [.box gb3 45 (ics t102), .box gb2 32 (ics (List.replicate 4 0)), .box gb1 32 (ics (List.replicate 4 0))]) := ⟨by rw [← hw]; exact HM.out.setRow 0 rfl _⟩; clear HM hw; have HM := n_; clear n_))
    go_loopg [6] k (fun kq v6 w' => ∃ (x6_11 : Int) (m2_11 : List Int), v6 = .int .i64 x6_11 ∧ Aside0 (spec_CountCoefficients.l0 kq x6_11 t102 m2_11 = some (r1, r2)) ∧ Aside0 (kq ≤ k) ∧ Aside0 (m2_11.length = 4) ∧ Aside0 (MS w w' [.box gb3 45 (ics t102), .box gb2 32 (ics m2_11), .box gb1 32 (ics (List.replicate 4 0))]))
    case atStart => exact ⟨(0), ((List.replicate 4 0)), (by first | rfl | (simp; done) | (simp only [i64_w]; done) | (simp [i64_w]; done) | (simp [*]; done)), H', ⟨Nat.le_refl _⟩, ⟨(List.length_replicate)⟩, HM⟩
    case round =>
      clear H'
      clear HM
      obtain ⟨x6_11, m2_11, rfl, HA, HK12_, HLm2_11, HM⟩ := hrel
      cases gk with
      | zero => exact absurd HA.out (by simp [spec_CountCoefficients.l0])
      | succ k13_ =>
        have H := HA.out
        clear HA
        simp only [spec_CountCoefficients.l0] at H
        by_cases c14_ : x6_11 ≤ 3
        · rw [if_pos c14_] at H
          have c14_b0 : decide (x6_11 ≤ 3) = true := decide_eq_true c14_
          clear c14_
          replace H := Option.bind_eq_some_iff.mp H
          obtain ⟨t103, A15_0, H⟩ := H
          replace H : (spec_CountCoefficients.l1 k13_ x6_11 t103 0 t102 m2_11) = some (r1, r2) := H
          have A15_ := Aside0.mk A15_0
          clear A15_0
          have H' := Aside0.mk H
          clear H
          go_wp2_with (first | ((with_reducible refine gate_callee (f := 43) rfl ?_); (with_reducible refine gate_dst (N := 21) rfl ?_); refine goesL_ (some 21) rfl rfl Try.func43 (by kernel_rfl) rfl #[.int .i64 x6_11] rfl (by (try simp only [List.map_toArray, List.map_cons, List.map_nil]); first | done | rfl | (simp only [List.length_drop, List.length_take]; rfl)) ?_; (with_reducible refine (spec_l8Lists.calls k13_ x6_11 t103 _  A15_.out).mono ?_); rintro e_ w16_ ⟨vv0_, rfl, ho0_, hb⟩; refine ⟨_, rfl, ?_⟩; obtain ⟨Ao4_0, co4_0, ev_, hl_, hF_⟩ := RoS.ofN (id ho0_); subst ev_; obtain ⟨ow4, hF2_, hM_⟩ := HM.out.addRo hb hF_; have HRh4 := Aside0.mk hF2_; have HCh4 := Aside0.mk hl_; have n_ := Aside0.mk hM_; clear HM hF_ hF2_ hl_ hM_; have HM := n_; clear n_; clear hb ho0_))
          go_loopg [8] k13_ (fun kq v8 w' => ∃ (x8_17 : Int) (m2_17 : List Int), v8 = .int .i64 x8_17 ∧ Aside0 (spec_CountCoefficients.l1 kq x6_11 t103 x8_17 t102 m2_17 = some (r1, r2)) ∧ Aside0 (kq ≤ k13_) ∧ Aside0 (m2_17.length = 4) ∧ Aside0 (MS w w' [.any ow4 (Agree ow4 w16_), .box gb3 45 (ics t102), .box gb2 32 (ics m2_17), .box gb1 32 (ics (List.replicate 4 0))]))
          case atStart => exact ⟨(0), (m2_11), (by first | rfl | (simp; done) | (simp only [i64_w]; done) | (simp [i64_w]; done) | (simp [*]; done)), H', ⟨Nat.le_refl _⟩, ⟨HLm2_11.out⟩, HM⟩
          case round =>
            clear H'
            clear HM
            obtain ⟨x8_17, m2_17, rfl, HA, HK18_, HLm2_17, HM⟩ := hrel
            cases gk with
            | zero => exact absurd HA.out (by simp [spec_CountCoefficients.l1])
            | succ k19_ =>
              have H := HA.out
              clear HA
              simp only [spec_CountCoefficients.l1] at H
              by_cases c20_ : x8_17 < (t103.length : Int)
              · rw [if_pos c20_] at H
                have c20_b0 : decide (x8_17 < (t103.length : Int)) = true := decide_eq_true c20_
                clear c20_
                by_cases c21_ : 0 ≤ x8_17
                · rw [if_pos c21_] at H
                  have c21_b0 : decide (0 ≤ x8_17) = true := decide_eq_true c21_
                  clear c21_
                  replace H := Option.bind_eq_some_iff.mp H
                  obtain ⟨t105, A22_0, H⟩ := H
                  replace H : (if t105 = 0 then (spec_CountCoefficients.l1 k19_ x6_11 t103 (wrap64 (x8_17 + 1)) t102 m2_17) else (if 0 ≤ x6_11 then (if x6_11 < 4 then (spec_CountCoefficients.l1 k19_ x6_11 t103 (wrap64 (x8_17 + 1)) t102 (m2_17.set (x6_11 : Int).toNat (wrap64 ((rd m2_17 x6_11) + 1)))) else (none)) else (none))) = some (r1, r2) := H
                  have A22_ := Aside0.mk A22_0
                  clear A22_0
                  have H' := Aside0.mk H
                  clear H
                  go_wp2
                  have p104 : 0 ≤ (x8_17 : Int) := of_decide_eq_true (by first | (with_reducible assumption) | assumption)
                  have q104 : (x8_17 : Int) < (t103.length : Int) := of_decide_eq_true (by first | (with_reducible assumption) | assumption)
                  obtain ⟨ad104, Ae104, ce104, e104, hx104, hle104, hC104, hy104⟩ := held_elem HRh4.out (HM.out.any 0 rfl) x8_17 p104 q104
                  cases e104
                  have HY104 := Aside0.mk hy104
                  clear hy104
                  have hz104 : Aside0 (∀ W_, Agree ow4 w16_ W_ → W_.cell? (ad104.add (x8_17 : Int).toNat) = some (.slice Ae104 (rdOf [] t103 x8_17).length ce104)) := ⟨fun W_ hA_ => held_cell HRh4.out (HM.out.any 0 rfl) hA_ x8_17 p104 q104 hx104⟩
                  have HRe104 := Aside0.mk hC104
                  have HCe104 := Aside0.mk hle104
                  clear hC104 hle104
                  replace p104 := eq_true p104
                  replace q104 := eq_true q104
                  have n_ := Aside0.mk (HM.out.step (below_drew1 (Below.refl wr.heap.size wr)))
                  clear HM
                  have HM := n_
                  clear n_
                  refine start_ (n := 7) (S := fun w' => (w'.heap[gb3]? = some (.cells (ics t102) 45 (0, 0))) ∧ (w'.cell? (ad104.add (x8_17 : Int).toNat) = some (.slice Ae104 (rdOf [] t103 x8_17).length ce104))) (ds := []) #[false, false, false, false, false, false, false] (by kernel_rfl) rfl rfl (⟨(HM.out.box 1 rfl), hz104.out _ (HM.out.any 0 rfl)⟩) (fun hHeld => ?_)
                  generalize wr.drew = w23_ at HM hHeld ⊢
                  refine take_ (i := 0) (N := some 28) (v := ?_) (a' := ?_) #[true, false, false, false, false, false, false] rfl rfl (by kernel_rfl) (fun _ _ _ h => h) (Or.inl ⟨by rfl, ?_⟩) hHeld ?_ ?_
                  rotate_left
                  · intro w' s0
                    refine load_arr 45 (.tmp 5) ?hoe24_ gb3 ?hxe24_ 45 (ics t102) (0, 0) _ (s0.1) Try.underlying45 rfl (by rw [ics_size, HLt102.out]; kernel_rfl)
                    (case hoe24_ => rfl)
                    (case hxe24_ => rfl)
                  rotate_left
                  · simp only [Act.put, List.setIfInBounds_toArray, List.set_cons_zero, List.set_cons_succ, i64_w, i32_w]
                    rfl
                  refine pure_ (i := 1) (N := some 29) (v := ?_) (a' := ?_) #[true, true, false, false, false, false, false] rfl rfl (by kernel_rfl) (fun _ _ _ h => h) (Or.inl ⟨by rfl, ?_⟩) ?_ ?_
                  rotate_left
                  · intro w'
                    go_simp
                    first | with_reducible rfl | (simp [Instr.field, asAgg, Go.part, run_underlying hu22, run_underlying hu32, run_underlying hu45, run_underlying hu55]; rfl) | rfl
                  rotate_left
                  · simp only [Act.put, List.setIfInBounds_toArray, List.set_cons_zero, List.set_cons_succ, i64_w, i32_w]
                    rfl
                  refine pure_ (i := 2) (N := some 30) (v := ?_) (a' := ?_) #[true, true, true, false, false, false, false] rfl rfl (by kernel_rfl) (fun _ _ _ h => h) (Or.inl ⟨by rfl, ?_⟩) ?_ ?_
                  rotate_left
                  · intro w'
                    go_simp
                    first | with_reducible rfl | (simp [Instr.field, asAgg, Go.part, run_underlying hu22, run_underlying hu32, run_underlying hu45, run_underlying hu55]; rfl) | rfl
                  rotate_left
                  · simp only [Act.put, List.setIfInBounds_toArray, List.set_cons_zero, List.set_cons_succ, i64_w, i32_w]
                    rfl
                  refine pure_ (i := 3) (N := some 31) (v := ?_) (a' := ?_) #[true, true, true, true, false, false, false] rfl rfl (by kernel_rfl) (fun _ _ _ h => h) (Or.inl ⟨by rfl, ?_⟩) ?_ ?_
                  rotate_left
                  · intro w'
                    go_simp
                    first | with_reducible rfl | (simp [Instr.field, asAgg, Go.part, run_underlying hu22, run_underlying hu32, run_underlying hu45, run_underlying hu55]; rfl) | rfl
                  rotate_left
                  · simp only [Act.put, List.setIfInBounds_toArray, List.set_cons_zero, List.set_cons_succ, i64_w, i32_w]
                    rfl
                  refine take_ (i := 4) (N := some 32) (v := ?_) (a' := ?_) #[true, true, true, true, true, false, false] rfl rfl (by kernel_rfl) (fun _ _ _ h => h) (Or.inl ⟨by rfl, ?_⟩) hHeld ?_ ?_
                  rotate_left
                  · intro w' s0
                    obtain ⟨s0_, s1_⟩ := s0
                    go_simp
                    first | with_reducible rfl | (simp [Instr.field, asAgg, Go.part, run_underlying hu22, run_underlying hu32, run_underlying hu45, run_underlying hu55]; rfl) | rfl
                  rotate_left
                  · simp only [Act.put, List.setIfInBounds_toArray, List.set_cons_zero, List.set_cons_succ, i64_w, i32_w]
                    rfl
                  refine one_ (i := 5) (N := some 33) #[true, true, true, true, true, true, false] rfl rfl (by kernel_rfl) (by decide) (fun K hK => ?_)
                  refine goes_ Try.func37 (by kernel_rfl) rfl #[.agg (ics t102), .slice Ae104 (rdOf [] t103 x8_17).length ce104] (by rfl) rfl rfl (by (try simp only [List.map_toArray, List.map_cons, List.map_nil]); first | done | rfl | (simp only [List.length_drop, List.length_take]; rfl)) ?_
                  with_reducible refine (spec_l8Get.calls t102 _ _ (rdOf [] t103 x8_17) t105 _ ?sd0 ?sd1 ?sd2 A22_.out).mono ?_
                  (case sd0 => exact HLt102.out)
                  (case sd1 => exact (HM.out.heldC 0 rfl HRe104.out))
                  (case sd2 => exact HCe104.out)
                  rintro e_ w25_ ⟨rfl, hb⟩
                  refine ⟨_, rfl, ?_⟩
                  have n_ := Aside0.mk (HM.out.step hb)
                  clear HM
                  have HM := n_
                  clear n_
                  clear hb
                  refine hK.out _ _ (⟨(HM.out.box 1 rfl), hz104.out _ (HM.out.any 0 rfl)⟩) (fun hHeld => ?_)
                  clear hK K
                  refine norm_ (a' := ?_) ?_ ?_
                  rotate_left
                  · show Act.put _ (some 33) _ = _
                    simp only [Act.put, List.setIfInBounds_toArray, List.set_cons_zero, List.set_cons_succ, i64_w, i32_w]
                    rfl
                  refine pure_ (i := 6) (N := some 34) (v := ?_) (a' := ?_) #[true, true, true, true, true, true, true] rfl rfl (by kernel_rfl) (fun _ _ _ h => h) (Or.inl ⟨by rfl, ?_⟩) ?_ ?_
                  rotate_left
                  · intro w'
                    go_simp
                    first | with_reducible rfl | (simp [Instr.field, asAgg, Go.part, run_underlying hu22, run_underlying hu32, run_underlying hu45, run_underlying hu55]; rfl) | rfl
                  rotate_left
                  · simp only [Act.put, List.setIfInBounds_toArray, List.set_cons_zero, List.set_cons_succ, i64_w, i32_w]
                    rfl
                  refine done_ (by kernel_rfl) ?_
                  have H := H'.out
                  clear H'
                  by_cases c26_ : t105 = 0
                  · rw [if_pos c26_] at H
                    have c26_b0 : (t105 == 0) = true := beq_iff_eq.mpr c26_
                    have c26_b1 : (t105 != 0) = false := bne_eq_false_iff_eq.mpr c26_
                    clear c26_
                    have H' := Aside0.mk H
                    clear H
                    go_wp2
                    go_roundg k19_
                    case measure => have hHK12__ := HK12_.out; have hHK18__ := HK18_.out; omega
                    case rel => exact ⟨(wrap64 (x8_17 + 1)), (m2_17), (by first | rfl | (simp; done) | (simp only [i64_w]; done) | (simp [i64_w]; done) | (simp [*]; done)), H', ⟨by have hHK12__ := HK12_.out; have hHK18__ := HK18_.out; omega⟩, ⟨HLm2_17.out⟩, HM⟩
                  · rw [if_neg c26_] at H
                    have c26_b0 : (t105 == 0) = false := beq_eq_false_iff_ne.mpr c26_
                    have c26_b1 : (t105 != 0) = true := bne_iff_ne.mpr c26_
                    clear c26_
                    by_cases c27_ : 0 ≤ x6_11
                    · rw [if_pos c27_] at H
                      have c27_b0 : decide (0 ≤ x6_11) = true := decide_eq_true c27_
                      clear c27_
                      by_cases c28_ : x6_11 < 4
                      · rw [if_pos c28_] at H
                        have c28_b0 : decide (x6_11 < 4) = true := decide_eq_true c28_
                        clear c28_
                        obtain ⟨y107, hy107⟩ : ∃ y_, y_ = (m2_17.set (x6_11 : Int).toNat (wrap64 ((rd m2_17 x6_11) + 1))) := ⟨_, rfl⟩
                        replace H : (spec_CountCoefficients.l1 k19_ x6_11 t103 (wrap64 (x8_17 + 1)) t102 y107) = some (r1, r2) := by first | (rw [hy107]; with_reducible exact H) | (have H2_ := (Option.bind_some _ _).symm.trans H; rw [hy107]; with_reducible exact H2_) | (have H2_ := (Option.bind_some _ _).symm.trans H; with_reducible exact H2_) | with_reducible exact H | (rw [hy107]; exact H) | exact H
                        have Ny107 := Aside0.mk hy107
                        clear hy107
                        have H' := Aside0.mk H
                        clear H
                        have p106 : 0 ≤ (x6_11 : Int) := of_decide_eq_true (by first | (with_reducible assumption) | assumption)
                        have q106 : (x6_11 : Int) < 4 := of_decide_eq_true (by first | (with_reducible assumption) | assumption)
                        have hx106 := icell (HM.out.box 2 rfl) x6_11 p106 (by have := HLm2_17.out; omega)
                        replace p106 := eq_true p106
                        replace q106 := eq_true q106
                        have p108 : 0 ≤ (x6_11 : Int) := of_decide_eq_true (by first | (with_reducible assumption) | assumption)
                        have q108 : (x6_11 : Int) < 4 := of_decide_eq_true (by first | (with_reducible assumption) | assumption)
                        have hx108 := icell (HM.out.box 2 rfl) x6_11 p108 (by have := HLm2_17.out; omega)
                        have hf108 := blk_frozen (HM.out.box 2 rfl) (x6_11 : Int).toNat
                        replace p108 := eq_true p108
                        replace q108 := eq_true q108
                        go_wp2_with (first | ((with_reducible refine gate_store (t := 3) (p := 39) rfl ?_); refine store_event (t := 3) (p := 39) (v := ?vow29_) (w1 := (w25_.setCell ⟨gb2, (x6_11 : Int).toNat, none⟩ (.int .i64 (wrap64 ((rd m2_17 x6_11) + 1))))) ?hg ?ho ?hn ?hr ?_; (case ho => rfl); (case hg => rfl); (case hn => rfl); (case hr => first | (go_simp; done) | (go_simp; rfl)); intro w29_ hw; have n_ : Aside0 (MS w w29_ [.any ow4 (Agree ow4 w16_), .box gb3 45 (ics t102), .box gb2 32 (ics y107), .box gb1 32 (ics (List.replicate 4 0))]) := ⟨by rw [hw]; exact HM.out.setBox 2 rfl _ _ (by rw [ics_set, ← Ny107.out])⟩; clear HM hw; have HM := n_; clear n_))
                        go_roundg k19_
                        case measure => have hHK12__ := HK12_.out; have hHK18__ := HK18_.out; omega
                        case rel => exact ⟨(wrap64 (x8_17 + 1)), (y107), (by first | rfl | (simp; done) | (simp only [i64_w]; done) | (simp [i64_w]; done) | (simp [*]; done)), H', ⟨by have hHK12__ := HK12_.out; have hHK18__ := HK18_.out; omega⟩, ⟨(show y107.length = 4 from by rw [Ny107.out, List.length_set]; exact HLm2_17.out)⟩, HM⟩
                      · rw [if_neg c28_] at H
                        have c28_b0 : decide (x6_11 < 4) = false := decide_eq_false c28_
                        clear c28_
                        exact absurd H (by simp)
                    · rw [if_neg c27_] at H
                      have c27_b0 : decide (0 ≤ x6_11) = false := decide_eq_false c27_
                      clear c27_
                      exact absurd H (by simp)
                · rw [if_neg c21_] at H
                  have c21_b0 : decide (0 ≤ x8_17) = false := decide_eq_false c21_
                  clear c21_
                  exact absurd H (by simp)
              · rw [if_neg c20_] at H
                have c20_b0 : decide (x8_17 < (t103.length : Int)) = false := decide_eq_false c20_
                clear c20_
                have H' := Aside0.mk H
                clear H
                go_wp2
                have n_ := Aside0.mk (show MS w wr [.box gb3 45 (ics t102), .box gb2 32 (ics m2_17), .box gb1 32 (ics (List.replicate 4 0))] from HM.out.drop 0)
                clear HM
                have HM := n_
                clear n_
                go_roundg k19_
                case measure => have hHK12__ := HK12_.out; have hHK18__ := HK18_.out; omega
                case rel => exact ⟨(wrap64 (x6_11 + 1)), (m2_17), (by first | rfl | (simp; done) | (simp only [i64_w]; done) | (simp [i64_w]; done) | (simp [*]; done)), H', ⟨by have hHK12__ := HK12_.out; have hHK18__ := HK18_.out; omega⟩, ⟨HLm2_17.out⟩, HM⟩
        · rw [if_neg c14_] at H
          have c14_b0 : decide (x6_11 ≤ 3) = false := decide_eq_false c14_
          clear c14_
          simp only [Option.some.injEq, Prod.mk.injEq] at H
          obtain ⟨rfl, rfl⟩ := H
          go_wp2_with (first | ((with_reducible refine gate_dst (N := 40) rfl ?_); refine wpList_load_row rfl _ _ rfl gb2 rfl 32 (ics m2_11) (0, 0) _ (HM.out.box 1 rfl) Try.underlying32 rfl (by rw [ics_size, HLm2_11.out]; kernel_rfl) ?_) | ((with_reducible refine gate_store (t := 32) (p := 2) rfl ?_); refine wpList_store_row rfl _ _ _ rfl gb1 (ics m2_11) rfl rfl 32 (ics (List.replicate 4 0)) (HM.out.box 2 rfl) (by rw [ics_size, HLm2_11.out]; kernel_rfl) ((ics_size _).trans (((List.length_replicate)).trans ((show _ = 4 from HLm2_11.out).symm.trans (ics_size _).symm))) (ics_one _) ?_; generalize hw : World.setRow _ _ _ = w30_; have n_ : Aside0 (MS w w30_ [.box gb3 45 (ics t102), .box gb2 32 (ics m2_11), .box gb1 32 (ics m2_11)]) := ⟨by rw [← hw]; exact HM.out.setRow 2 rfl _⟩; clear HM hw; have HM := n_; clear n_))
          refine bodyPost_ret (results_ct rfl _ _ gb1 32 (ics m2_11) (0, 0) _ rfl (HM.out.box 2 rfl) Try.underlying32 rfl (by rw [ics_size, HLm2_11.out]; kernel_rfl)) rfl ?_
          exact ⟨by first | rfl | (simp; done) | (simp only [i64_w]; done) | (simp [i64_w]; done) | (simp [*]; done), HLm2_11.out, HM.out.below⟩
  · replace c2_ := Bool.eq_false_iff.mpr c2_
    subst c2_
    have H1 : (some (List.replicate 4 0, false)) = some (r1, r2) := by rw [if_neg (show ¬ (false = true) by decide)] at H; exact H
    clear H
    have H := H1
    clear H1
    simp only [Option.some.injEq, Prod.mk.injEq] at H
    obtain ⟨rfl, rfl⟩ := H
    go_enter Try.func20, Try.ntmps20
    go_wp2_with (first | ((with_reducible refine gate_dst (N := 2) rfl ?_); refine box_event ?hg (N := 2) ?hd (cs := (ics (List.replicate 4 0))) (t := 32) ?hr ?_; (case hd => rfl); (case hg => rfl); (case hr => first | (go_simp; done) | (go_simp; rfl)); intro gb1 hg w31_ hbox hb; have n_ := Aside0.mk (HM.out.addBox hb hbox hg); clear HM; have HM := n_; clear n_; clear hb hbox hg) | ((with_reducible refine gate_dst (N := 9) rfl ?_); refine build_zero ?hg (N := 9) ?hd (cs := (ics (List.replicate 4 0))) ?hr ?_; (case hd => rfl); (case hg => rfl); (case hr => first | (go_simp; done) | (go_simp; rfl))) | ((with_reducible refine gate_dst (N := 4) rfl ?_); refine box_event ?hg (N := 4) ?hd (cs := (ics (List.replicate 4 0))) (t := 32) ?hr ?_; (case hd => rfl); (case hg => rfl); (case hr => first | (go_simp; done) | (go_simp; rfl)); intro gb2 hg w32_ hbox hb; have n_ := Aside0.mk (HM.out.addBox hb hbox hg); clear HM; have HM := n_; clear n_; clear hb hbox hg) | ((with_reducible refine gate_store (t := 32) (p := 4) rfl ?_); refine wpList_store_row rfl _ _ _ rfl gb2 (ics (List.replicate 4 0)) rfl rfl 32 (ics (List.replicate 4 0)) (HM.out.box 0 rfl) (by rw [ics_size, (List.length_replicate)]; kernel_rfl) ((ics_size _).trans (((List.length_replicate)).trans ((show _ = 4 from (List.length_replicate)).symm.trans (ics_size _).symm))) (ics_one _) ?_; generalize hw : World.setRow _ _ _ = w33_; have n_ : Aside0 (MS w w33_ [.box gb2 32 (ics (List.replicate 4 0)), .box gb1 32 (ics (List.replicate 4 0))]) := ⟨by rw [← hw]; exact HM.out.setRow 0 rfl _⟩; clear HM hw; have HM := n_; clear n_) | ((with_reducible refine gate_callee (f := 31) rfl ?_); (with_reducible refine gate_dst (N := 11) rfl ?_); refine goesL_ (some 11) rfl rfl Try.func31 (by kernel_rfl) rfl #[.slice A0 l0.length c0] rfl (by (try simp only [List.map_toArray, List.map_cons, List.map_nil]); first | done | rfl | (simp only [List.length_drop, List.length_take]; rfl)) ?_; (with_reducible refine (spec_l2Word.calls k _ _ l0 false _ ?sd0 ?sd1 A1_.out).mono ?_); (case sd0 => exact (Kd.C_below HR0.out HM.out.below)); (case sd1 => exact HC0.out); rintro e_ w34_ ⟨rfl, hd_⟩; refine ⟨_, rfl, ?_⟩; have hb := hd_.below; clear hd_; have n_ := Aside0.mk (HM.out.step hb); clear HM; have HM := n_; clear n_; clear hb) | ((with_reducible refine gate_dst (N := 13) rfl ?_); refine wpList_load_row rfl _ _ rfl gb2 rfl 32 (ics (List.replicate 4 0)) (0, 0) _ (HM.out.box 0 rfl) Try.underlying32 rfl (by rw [ics_size, (List.length_replicate)]; kernel_rfl) ?_) | ((with_reducible refine gate_store (t := 32) (p := 2) rfl ?_); refine wpList_store_row rfl _ _ _ rfl gb1 (ics (List.replicate 4 0)) rfl rfl 32 (ics (List.replicate 4 0)) (HM.out.box 1 rfl) (by rw [ics_size, (List.length_replicate)]; kernel_rfl) ((ics_size _).trans (((List.length_replicate)).trans ((show _ = 4 from (List.length_replicate)).symm.trans (ics_size _).symm))) (ics_one _) ?_; generalize hw : World.setRow _ _ _ = w35_; have n_ : Aside0 (MS w w35_ [.box gb2 32 (ics (List.replicate 4 0)), .box gb1 32 (ics (List.replicate 4 0))]) := ⟨by rw [← hw]; exact HM.out.setRow 1 rfl _⟩; clear HM hw; have HM := n_; clear n_))
    refine bodyPost_ret (results_ct rfl _ _ gb1 32 (ics (List.replicate 4 0)) (0, 0) _ rfl (HM.out.box 1 rfl) Try.underlying32 rfl (by rw [ics_size, (List.length_replicate)]; kernel_rfl)) rfl ?_
    exact ⟨by first | rfl | (simp; done) | (simp only [i64_w]; done) | (simp [i64_w]; done) | (simp [*]; done), (List.length_replicate), HM.out.below⟩

end Go.Proofs.Ytblhjcdfccggfaa.Q
