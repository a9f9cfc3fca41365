-- Written by a program of this session's own (wip/wgen.py): what functions of the program compute, and that they do.
import Derived.Below
import Derived.Deep.Draws
import Derived.Deep.AppendLies
import Derived.Maps.AppendAt
import Derived.OwnWalk
import Derived.Laws.BytesArg
import Derived.Laws.MakeOwn
import Derived.Laws.OwnMore
import Derived.Deep.OwnRows
import Derived.Tactics
import Derived.Lib.ConvBytes
import Derived.Laws.Slices
import Derived.WalkKit
import Derived.KernelRfl
import Derived.RowKit3
import Derived.Deep.LoopGhost
import Derived.Deep.QuietTactic
import Derived.BigQuiet
import Derived.WideLaws
import Derived.Deep.DeepCutAuto
import Derived.Deep.CutBlock
import Derived.Deep.RegionHeld3
import Derived.Laws.Rows
import Derived.Lib.AppendStr
import Derived.ArgAppend
import Derived.Laws.IdiomCopy
import Derived.OrdersHeld
import Derived.Laws.BitsLemmas
import Derived.RowKit
import Derived.Lib.SliceRun
import Derived.Test.YtlbhfbanbdahdaaHM
import Derived.Test.YtlbhfbanbdahdaaRG
import Derived.Test.YtlbhfbanbdahdaaProg
import Derived.Test.YtlbhfbanbdahdaaK1
import Derived.Test.YtlbhfbanbdahdaaK2
import Derived.Test.YtlbhfbanbdahdaaQI
import Derived.Test.YtlbhfbanbdahdaaCN
import Derived.Test.YtlbhfbanbdahdaaDF
namespace Go.Proofs.Ytlbhfbanbdahdaa.Q
open Go.RowKit Go.Proofs.YtlbhfbanbdahdaaW.PrintWords Go.Proofs.YtlbhfbanbdahdaaW.PrintLast Go.Proofs.YtlbhfbanbdahdaaW.PrintMore Go.Proofs.YtlbhfbanbdahdaaM Go.Proofs.Ytlbhfbanbdahdaa.K
attribute [local go_sem] max2_int min2_int max_two min_two max_three min_three max_four min_four
set_option linter.unusedVariables false
set_option linter.unusedSimpArgs false

theorem info3 : (Try.prog.info? 3).map (fun i => (i.zero, i.size, i.bytes)) = some (some (.int .i64 0), 1, 8) := by kernel_rfl
/-! ### impl_choices_1: function 95 -/
def impl_choices_1.f (a0 : Int) (a1 : Int) : Option (Bool) := some (a0 == (wrap64 (-a1)))
set_option maxHeartbeats 8000000 in
set_option maxRecDepth 100000 in
theorem impl_choices_1.calls (a0 : Int) (gb1 : Nat) (a1 : Int) (r : Bool) (w : World) (hq1 : w.heap[gb1]? = some (.cells #[.int .i64 a1] 3 (0, 0))) (h : impl_choices_1.f a0 a1 = some r) :
    Calls Try.prog 95 #[.int .i64 a0, .pointer (some ⟨gb1, 0, none⟩)] w fun e w' => e = .returned (.bool r) ∧ Drawn0 w w' := by
  have HQ1 := Aside0.mk hq1
  clear hq1
  have HM := Aside0.mk (MS.start w)
  have HD := Aside0.mk (Drawn0.refl w)
  have H : (some (a0 == (wrap64 (-a1)))) = some r := h
  clear h
  obtain rfl := Option.some.inj H
  have hcz1_0 : w.cell? ⟨gb1, 0, none⟩ = some (.int .i64 a1) := (blk_cell (blk_below HQ1.out HM.out.below) 0).trans rfl
  have hfz1_0 := blk_frozen (blk_below HQ1.out HM.out.below) 0
  go_enter Try.func95, Try.ntmps95
  go_wp2
  go_ret
  exact ⟨by first | rfl | (simp; done) | (simp only [i64_w]; done) | (simp [i64_w]; done) | (simp [*]; done), HD.out⟩

/-! ### impl_choices: function 86 -/
def impl_choices.f (k : Nat) (a0 : Int) (a1 : Int) : Option (List Int) := (impl_letters.f k a0).bind fun t101 => ((slices_DeleteFunc_int_int.f t101 (fun x_ => impl_choices_1.f x_ a1)).bind fun t103 => (some t103))
set_option maxHeartbeats 8000000 in
set_option maxRecDepth 100000 in
theorem impl_choices.calls (k : Nat) (a0 : Int) (a1 : Int) (r : List Int) (w : World)  (h : impl_choices.f k a0 a1 = some r) :
    Calls Try.prog 86 #[.int .i64 a0, .int .i64 a1] w fun e w' => ∃ v0_ : Value, e = .returned (v0_) ∧ Kd.R (Kd.int .i64) 3 w' w.heap.size (fun _ => True) v0_ r ∧ Below w.heap.size w w' := by
  have HM := Aside0.mk (MS.start w)
  have H : ((impl_letters.f k a0).bind fun t101 => ((slices_DeleteFunc_int_int.f t101 (fun x_ => impl_choices_1.f x_ a1)).bind fun t103 => (some t103))) = some r := h
  clear h
  replace H := Option.bind_eq_some_iff.mp H
  obtain ⟨t101, A1_0, H⟩ := H
  replace H : ((slices_DeleteFunc_int_int.f t101 (fun x_ => impl_choices_1.f x_ a1)).bind fun t103 => (some t103)) = some r := H
  have A1_ := Aside0.mk A1_0
  clear A1_0
  replace H := Option.bind_eq_some_iff.mp H
  obtain ⟨t103, A2_0, H⟩ := H
  replace H : (some t103) = some r := H
  have A2_ := Aside0.mk A2_0
  clear A2_0
  obtain rfl := Option.some.inj H
  go_enter Try.func86, Try.ntmps86
  go_wp2_with (first | ((with_reducible refine gate_dst (N := 3) rfl ?_); refine box_event ?hg (N := 3) ?hd (cs := #[.int .i64 a1]) (t := 3) ?hr ?_; (case hd => rfl); (case hg => rfl); (case hr => first | (go_simp; done) | (go_simp; rfl)); intro gb1 hg w3_ hbox hb; have n_ := Aside0.mk (HM.out.addBox hb hbox hg); clear HM; have HM := n_; clear n_; clear hb hbox hg) | ((with_reducible refine gate_callee (f := 94) rfl ?_); (with_reducible refine gate_dst (N := 6) rfl ?_); refine goesL_ (some 6) rfl rfl Try.func94 (by kernel_rfl) rfl #[.int .i64 a0] rfl (by (try simp only [List.map_toArray, List.map_cons, List.map_nil]); first | done | rfl | (simp only [List.length_drop, List.length_take]; rfl)) ?_; (with_reducible refine (impl_letters.calls k a0 t101 _  A1_.out).mono ?_); rintro e_ w4_ ⟨vv0_, rfl, ho0_, hb⟩; refine ⟨_, rfl, ?_⟩; obtain ⟨Ao2_0, co2_0, ev_⟩ := Kd.R_slice ho0_; subst ev_; have n_ := Aside0.mk (HM.out.addR hb ho0_); clear HM; have HM := n_; clear n_; clear hb ho0_; have fv102 := Aside0.mk (show FnB Try.prog w4_ (.func (.func 95) #[] #[.pointer (some ⟨gb1, 0, none⟩)]) (fun x_ => impl_choices_1.f x_ a1) from FnB.mk Try.func95 rfl rfl (fun W_ hW_ x_ r_ hr_ => (show Calls Try.prog 95 #[.int .i64 x_, .pointer (some ⟨gb1, 0, none⟩)] W_ _ from drawn_calls (impl_choices_1.calls x_ _ a1 r_ W_ (blk_below (HM.out.box 1 rfl) hW_) hr_)))); have n_ : Aside0 (MS w w4_ [.row 3 (.slice Ao2_0 t101.length co2_0) (encs (Value.int .i64) t101), .box gb1 3 #[.int .i64 a1]]) := ⟨HM.out.front 0 rfl⟩; clear HM; have HM := n_; clear n_; have fm6_ := Aside0.mk (show FnM Try.prog w [.box gb1 3 #[.int .i64 a1]] (.func (.func 95) #[] #[.pointer (some ⟨gb1, 0, none⟩)]) (fun x_ => impl_choices_1.f x_ a1) from FnM.mk Try.func95 rfl rfl (fun W_ hM_ x_ r_ hr_ => (show Calls Try.prog 95 #[.int .i64 x_, .pointer (some ⟨gb1, 0, none⟩)] W_ _ from drawn_calls (impl_choices_1.calls x_ _ a1 r_ W_ (hM_.box 0 rfl) hr_))))) | ((with_reducible refine gate_callee (f := 93) rfl ?_); (with_reducible refine gate_dst (N := 8) rfl ?_); refine goesL_ (some 8) rfl rfl Try.func93 (by kernel_rfl) rfl #[.slice Ao2_0 t101.length co2_0, .func (.func 95) #[] #[.pointer (some ⟨gb1, 0, none⟩)]] rfl (by (try simp only [List.map_toArray, List.map_cons, List.map_nil]); first | done | rfl | (simp only [List.length_drop, List.length_take]; rfl)) ?_; (with_reducible refine (slices_DeleteFunc_int_int.calls _ _ _ _ t101 _ (fun x_ => impl_choices_1.f x_ a1) t103 _ HM.out fm6_.out A2_.out).mono ?_); rintro e_ w5_ ⟨Ao2_t103, co2_t103, rfl, hm_⟩; refine ⟨_, rfl, ?_⟩; have n_ := Aside0.mk hm_; clear HM hm_; have HM := n_; clear n_))
  go_ret
  exact ⟨_, by first | rfl | (simp; done) | (simp only [i64_w]; done) | (simp [i64_w]; done) | (simp [*]; done), HM.out.R 0 rfl, HM.out.below⟩

/-! ### spec_l3Falls: function 61 -/
def spec_l3Falls.f (k : Nat) (l0 : List Int) (a1 : Int) : Option (Bool) := (spec_l3Take.f k l0 a1).bind fun t104 => (some ((t104.length : Int) == 0))
set_option maxHeartbeats 8000000 in
set_option maxRecDepth 100000 in
theorem spec_l3Falls.calls (k : Nat) (A0 : Option Addr) (c0 : Nat) (l0 : List Int) (a1 : Int) (r : Bool) (w : World) (hr0 : Kd.C (Kd.int .i64) w A0 l0.length l0) (hc0 : l0.length ≤ c0) (h : spec_l3Falls.f k l0 a1 = some r) :
    Calls Try.prog 61 #[.slice A0 l0.length c0, .int .i64 a1] w fun e w' => e = .returned (.bool r) ∧ Below w.heap.size w w' := by
  have HR0 := Aside0.mk hr0
  have HC0 := Aside0.mk hc0
  clear hr0 hc0
  have HM := Aside0.mk (MS.start w)
  have H : ((spec_l3Take.f k l0 a1).bind fun t104 => (some ((t104.length : Int) == 0))) = some r := h
  clear h
  replace H := Option.bind_eq_some_iff.mp H
  obtain ⟨t104, A1_0, H⟩ := H
  replace H : (some ((t104.length : Int) == 0)) = some r := H
  have A1_ := Aside0.mk A1_0
  clear A1_0
  obtain rfl := Option.some.inj H
  go_enter Try.func61, Try.ntmps61
  go_wp2_with (first | ((with_reducible refine gate_callee (f := 87) rfl ?_); (with_reducible refine gate_dst (N := 7) rfl ?_); refine goesL_ (some 7) rfl rfl Try.func87 (by kernel_rfl) rfl #[.slice A0 l0.length c0, .int .i64 a1] rfl (by (try simp only [List.map_toArray, List.map_cons, List.map_nil]); first | done | rfl | (simp only [List.length_drop, List.length_take]; rfl)) ?_; (with_reducible refine (spec_l3Take.calls k _ _ l0 a1 t104 _ ?sd0 ?sd1 A1_.out).mono ?_); (case sd0 => exact (Kd.C_below HR0.out HM.out.below)); (case sd1 => exact HC0.out); rintro e_ w2_ ⟨vv0_, rfl, ho0_, hb⟩; refine ⟨_, rfl, ?_⟩; obtain ⟨Ao1_0, co1_0, ev_⟩ := Kd.R_slice ho0_; subst ev_; have n_ := Aside0.mk (HM.out.addR hb ho0_); clear HM; have HM := n_; clear n_; clear hb ho0_))
  go_ret
  exact ⟨by first | rfl | (simp; done) | (simp only [i64_w]; done) | (simp [i64_w]; done) | (simp [*]; done), HM.out.below⟩

/-! ### spec_l3Table: function 32 -/
def spec_l3Table.l0 : Nat → (List Int) → (Int) → (List Bool) → Option (List Bool)
  | 0, _, _, _ => none
  | k + 1, x0, x4, m2 => if x4 < 64 then ((spec_l3Falls.f k x0 x4).bind fun t105 => (if 0 ≤ x4 then (spec_l3Table.l0 k x0 (wrap64 (x4 + 1)) (m2.set (x4 : Int).toNat t105)) else (none))) else (some m2)
def spec_l3Table.f (k : Nat) (l0 : List Int) : Option (List Bool) := spec_l3Table.l0 k l0 0 (List.replicate 64 false)
set_option maxHeartbeats 8000000 in
set_option maxRecDepth 100000 in
theorem spec_l3Table.calls (k : Nat) (A0 : Option Addr) (c0 : Nat) (l0 : List Int) (r : List Bool) (w : World) (hr0 : Kd.C (Kd.int .i64) w A0 l0.length l0) (hc0 : l0.length ≤ c0) (h : spec_l3Table.f k l0 = some r) :
    Calls Try.prog 32 #[.slice A0 l0.length c0] w fun e w' => e = .returned (.agg (bcs r)) ∧ r.length = 64 ∧ Below w.heap.size w w' := by
  have HR0 := Aside0.mk hr0
  have HC0 := Aside0.mk hc0
  clear hr0 hc0
  have hu48 := Try.underlying48
  have HM := Aside0.mk (MS.start w)
  have H : (spec_l3Table.l0 k l0 0 (List.replicate 64 false)) = some r := h
  clear h
  have H' := Aside0.mk H
  clear H
  go_enter Try.func32, Try.ntmps32
  go_wp2_with (first | ((with_reducible refine gate_dst (N := 2) rfl ?_); refine box_event ?hg (N := 2) ?hd (cs := (bcs (List.replicate 64 false))) (t := 48) ?hr ?_; (case hd => rfl); (case hg => rfl); (case hr => first | (go_simp; done) | (go_simp; rfl)); intro gb1 hg w1_ hbox hb; have n_ := Aside0.mk (HM.out.addBox hb hbox hg); clear HM; have HM := n_; clear n_; clear hb hbox hg) | ((with_reducible refine gate_dst (N := 5) rfl ?_); refine build_zero ?hg (N := 5) ?hd (cs := (bcs (List.replicate 64 false))) ?hr ?_; (case hd => rfl); (case hg => rfl); (case hr => first | (go_simp; done) | (go_simp; rfl))) | ((with_reducible refine gate_dst (N := 3) rfl ?_); refine box_event ?hg (N := 3) ?hd (cs := (bcs (List.replicate 64 false))) (t := 48) ?hr ?_; (case hd => rfl); (case hg => rfl); (case hr => first | (go_simp; done) | (go_simp; rfl)); intro gb2 hg w2_ hbox hb; have n_ := Aside0.mk (HM.out.addBox hb hbox hg); clear HM; have HM := n_; clear n_; clear hb hbox hg) | ((with_reducible refine gate_store (t := 48) (p := 3) rfl ?_); refine wpList_store_row rfl _ _ _ rfl gb2 (bcs (List.replicate 64 false)) rfl rfl 48 (bcs (List.replicate 64 false)) (HM.out.box 0 rfl) (by rw [bcs_size, (List.length_replicate)]; kernel_rfl) ((bcs_size _).trans (((List.length_replicate)).trans ((show _ = 64 from (List.length_replicate)).symm.trans (bcs_size _).symm))) (bcs_one _) ?_; generalize hw : World.setRow _ _ _ = w3_; have n_ : Aside0 (MS w w3_ [.box gb2 48 (bcs (List.replicate 64 false)), .box gb1 48 (bcs (List.replicate 64 false))]) := ⟨by rw [← hw]; exact HM.out.setRow 0 rfl _⟩; clear HM hw; have HM := n_; clear n_))
  go_loopg [4] k (fun kq v4 w' => ∃ (x4_4 : Int) (m2_4 : List Bool), v4 = .int .i64 x4_4 ∧ Aside0 (spec_l3Table.l0 kq l0 x4_4 m2_4 = some r) ∧ Aside0 (kq ≤ k) ∧ Aside0 (m2_4.length = 64) ∧ Aside0 (MS w w' [.box gb2 48 (bcs m2_4), .box gb1 48 (bcs (List.replicate 64 false))]))
  case atStart => exact ⟨(0), ((List.replicate 64 false)), (by first | rfl | (simp; done) | (simp only [i64_w]; done) | (simp [i64_w]; done) | (simp [*]; done)), H', ⟨Nat.le_refl _⟩, ⟨(List.length_replicate)⟩, HM⟩
  case round =>
    clear H'
    clear HM
    obtain ⟨x4_4, m2_4, rfl, HA, HK5_, HLm2_4, HM⟩ := hrel
    cases gk with
    | zero => exact absurd HA.out (by simp [spec_l3Table.l0])
    | succ k6_ =>
      have H := HA.out
      clear HA
      simp only [spec_l3Table.l0] at H
      by_cases c7_ : x4_4 < 64
      · rw [if_pos c7_] at H
        have c7_b0 : decide (x4_4 < 64) = true := decide_eq_true c7_
        clear c7_
        replace H := Option.bind_eq_some_iff.mp H
        obtain ⟨t105, A8_0, H⟩ := H
        replace H : (if 0 ≤ x4_4 then (spec_l3Table.l0 k6_ l0 (wrap64 (x4_4 + 1)) (m2_4.set (x4_4 : Int).toNat t105)) else (none)) = some r := H
        have A8_ := Aside0.mk A8_0
        clear A8_0
        by_cases c9_ : 0 ≤ x4_4
        · rw [if_pos c9_] at H
          have c9_b0 : decide (0 ≤ x4_4) = true := decide_eq_true c9_
          clear c9_
          obtain ⟨y106, hy106⟩ : ∃ y_, y_ = (m2_4.set (x4_4 : Int).toNat t105) := ⟨_, rfl⟩
          replace H : (spec_l3Table.l0 k6_ l0 (wrap64 (x4_4 + 1)) y106) = some r := by first | (rw [hy106]; with_reducible exact H) | (have H2_ := (Option.bind_some _ _).symm.trans H; rw [hy106]; with_reducible exact H2_) | (have H2_ := (Option.bind_some _ _).symm.trans H; with_reducible exact H2_) | with_reducible exact H | (rw [hy106]; exact H) | exact H
          have Ny106 := Aside0.mk hy106
          clear hy106
          have H' := Aside0.mk H
          clear H
          go_wp2_with (first | ((with_reducible refine gate_callee (f := 61) rfl ?_); (with_reducible refine gate_dst (N := 13) rfl ?_); refine goesL_ (some 13) rfl rfl Try.func61 (by kernel_rfl) rfl #[.slice A0 l0.length c0, .int .i64 x4_4] rfl (by (try simp only [List.map_toArray, List.map_cons, List.map_nil]); first | done | rfl | (simp only [List.length_drop, List.length_take]; rfl)) ?_; (with_reducible refine (spec_l3Falls.calls k6_ _ _ l0 x4_4 t105 _ ?sd0 ?sd1 A8_.out).mono ?_); (case sd0 => exact (Kd.C_below HR0.out HM.out.below)); (case sd1 => exact HC0.out); rintro e_ w10_ ⟨rfl, hb⟩; refine ⟨_, rfl, ?_⟩; have n_ := Aside0.mk (HM.out.step hb); clear HM; have HM := n_; clear n_; clear hb; have p107 : 0 ≤ (x4_4 : Int) := of_decide_eq_true (by first | (with_reducible assumption) | assumption); have q107 : (x4_4 : Int) < 64 := of_decide_eq_true (by first | (with_reducible assumption) | assumption); have hx107 := bcell (HM.out.box 0 rfl) x4_4 p107 (by have := HLm2_4.out; omega); have hf107 := blk_frozen (HM.out.box 0 rfl) (x4_4 : Int).toNat; replace p107 := eq_true p107; replace q107 := eq_true q107) | ((with_reducible refine gate_store (t := 4) (p := 14) rfl ?_); refine store_event (t := 4) (p := 14) (v := ?vow11_) (w1 := (w10_.setCell ⟨gb2, (x4_4 : Int).toNat, none⟩ (.bool t105))) ?hg ?ho ?hn ?hr ?_; (case ho => rfl); (case hg => rfl); (case hn => rfl); (case hr => first | (go_simp; done) | (go_simp; rfl)); intro w11_ hw; have n_ : Aside0 (MS w w11_ [.box gb2 48 (bcs y106), .box gb1 48 (bcs (List.replicate 64 false))]) := ⟨by rw [hw]; exact HM.out.setBox 0 rfl _ _ (by rw [bcs_set, ← Ny106.out])⟩; clear HM hw; have HM := n_; clear n_))
          go_roundg k6_
          case measure => have hHK5__ := HK5_.out; omega
          case rel => exact ⟨(wrap64 (x4_4 + 1)), (y106), (by first | rfl | (simp; done) | (simp only [i64_w]; done) | (simp [i64_w]; done) | (simp [*]; done)), H', ⟨by have hHK5__ := HK5_.out; omega⟩, ⟨(show y106.length = 64 from by rw [Ny106.out, List.length_set]; exact HLm2_4.out)⟩, HM⟩
        · rw [if_neg c9_] at H
          have c9_b0 : decide (0 ≤ x4_4) = false := decide_eq_false c9_
          clear c9_
          exact absurd H (by simp)
      · rw [if_neg c7_] at H
        have c7_b0 : decide (x4_4 < 64) = false := decide_eq_false c7_
        clear c7_
        obtain rfl := Option.some.inj H
        go_wp2_with (first | ((with_reducible refine gate_dst (N := 15) rfl ?_); refine wpList_load_row rfl _ _ rfl gb2 rfl 48 (bcs m2_4) (0, 0) _ (HM.out.box 0 rfl) Try.underlying48 rfl (by rw [bcs_size, HLm2_4.out]; kernel_rfl) ?_) | ((with_reducible refine gate_store (t := 48) (p := 2) rfl ?_); refine wpList_store_row rfl _ _ _ rfl gb1 (bcs m2_4) rfl rfl 48 (bcs (List.replicate 64 false)) (HM.out.box 1 rfl) (by rw [bcs_size, HLm2_4.out]; kernel_rfl) ((bcs_size _).trans (((List.length_replicate)).trans ((show _ = 64 from HLm2_4.out).symm.trans (bcs_size _).symm))) (bcs_one _) ?_; generalize hw : World.setRow _ _ _ = w12_; have n_ : Aside0 (MS w w12_ [.box gb2 48 (bcs m2_4), .box gb1 48 (bcs m2_4)]) := ⟨by rw [← hw]; exact HM.out.setRow 1 rfl _⟩; clear HM hw; have HM := n_; clear n_))
        refine bodyPost_ret (results_cell_row rfl _ _ gb1 48 (bcs m2_4) (0, 0) _ rfl (HM.out.box 1 rfl) Try.underlying48 rfl (by rw [bcs_size, HLm2_4.out]; kernel_rfl)) rfl ?_
        exact ⟨by first | rfl | (simp; done) | (simp only [i64_w]; done) | (simp [i64_w]; done) | (simp [*]; done), HLm2_4.out, HM.out.below⟩

/-! ### spec_l3Edge: function 90 -/
def spec_l3Edge.l0 : Nat → (Int) → (Bool) → (Int) → (List Bool) → Option (Bool)
  | 0, _, _, _, _ => none
  | k + 1, x1, x2, x7, m1 => if x7 < 6 then (if 0 ≤ x7 then (if 0 ≤ (Go.bits .xor .i64 x1 (shl .i64 1 x7)) then (if (Go.bits .xor .i64 x1 (shl .i64 1 x7)) < 64 then (if ((rdOf false m1 (Go.bits .xor .i64 x1 (shl .i64 1 x7))) == x2) = true then (if ((decide ((Go.bits .xor .i64 x1 (shl .i64 1 x7)) < x1)) == x2) = true then (some false) else (spec_l3Edge.l0 k x1 x2 (wrap64 (x7 + 1)) m1)) else (spec_l3Edge.l0 k x1 x2 (wrap64 (x7 + 1)) m1)) else (none)) else (none)) else (none)) else (if 0 ≤ x1 then (if x1 < 64 then (some ((rdOf false m1 x1) == x2)) else (none)) else (none))
def spec_l3Edge.f (k : Nat) (l0 : List Bool) (a1 : Int) (a2 : Bool) : Option (Bool) := spec_l3Edge.l0 k a1 a2 0 l0
set_option maxHeartbeats 8000000 in
set_option maxRecDepth 100000 in
theorem spec_l3Edge.calls (k : Nat) (l0 : List Bool) (a1 : Int) (a2 : Bool) (r : Bool) (w : World) (hl0 : l0.length = 64) (h : spec_l3Edge.f k l0 a1 a2 = some r) :
    Calls Try.prog 90 #[.agg (bcs l0), .int .i64 a1, .bool a2] w fun e w' => e = .returned (.bool r) ∧ Below w.heap.size w w' := by
  have HL0 := Aside0.mk hl0
  clear hl0
  have hu48 := Try.underlying48
  have HM := Aside0.mk (MS.start w)
  have H : (spec_l3Edge.l0 k a1 a2 0 l0) = some r := h
  clear h
  have H' := Aside0.mk H
  clear H
  go_enter Try.func90, Try.ntmps90
  go_wp2_with (first | ((with_reducible refine gate_dst (N := 3) rfl ?_); refine box_event ?hg (N := 3) ?hd (cs := (bcs l0)) (t := 48) ?hr ?_; (case hd => rfl); (case hg => rfl); (case hr => first | (go_simp; done) | (go_simp; rfl)); intro gb1 hg w1_ hbox hb; have n_ := Aside0.mk (HM.out.addBox hb hbox hg); clear HM; have HM := n_; clear n_; clear hb hbox hg))
  go_loopg [7] k (fun kq v7 w' => ∃ (x7_2 : Int), v7 = .int .i64 x7_2 ∧ Aside0 (spec_l3Edge.l0 kq a1 a2 x7_2 l0 = some r) ∧ Aside0 (kq ≤ k) ∧ Aside0 (MS w w' [.box gb1 48 (bcs l0)]))
  case atStart => exact ⟨(0), (by first | rfl | (simp; done) | (simp only [i64_w]; done) | (simp [i64_w]; done) | (simp [*]; done)), H', ⟨Nat.le_refl _⟩, HM⟩
  case round =>
    clear H'
    clear HM
    obtain ⟨x7_2, rfl, HA, HK3_, HM⟩ := hrel
    cases gk with
    | zero => exact absurd HA.out (by simp [spec_l3Edge.l0])
    | succ k4_ =>
      have H := HA.out
      clear HA
      simp only [spec_l3Edge.l0] at H
      by_cases c5_ : x7_2 < 6
      · rw [if_pos c5_] at H
        have c5_b0 : decide (x7_2 < 6) = true := decide_eq_true c5_
        clear c5_
        by_cases c6_ : 0 ≤ x7_2
        · rw [if_pos c6_] at H
          have c6_x := eq_true c6_
          have c6_b0 : decide (0 ≤ x7_2) = true := decide_eq_true c6_
          clear c6_
          obtain ⟨ji7_, hji7_⟩ : ∃ j_ : Int, (shl .i64 1 x7_2) = j_ := ⟨_, rfl⟩
          replace H : (if 0 ≤ (Go.bits .xor .i64 a1 ji7_) then (if (Go.bits .xor .i64 a1 ji7_) < 64 then (if ((rdOf false l0 (Go.bits .xor .i64 a1 ji7_)) == a2) = true then (if ((decide ((Go.bits .xor .i64 a1 ji7_) < a1)) == a2) = true then (some false) else (spec_l3Edge.l0 k4_ a1 a2 (wrap64 (x7_2 + 1)) l0)) else (spec_l3Edge.l0 k4_ a1 a2 (wrap64 (x7_2 + 1)) l0)) else (none)) else (none)) = some r := by first | (rw [hji7_] at H; exact H) | (simp only [hji7_] at H ⊢; exact H)
          have hji7__ : (IntKind.i64.wrap (1 * 2 ^ min (x7_2).toNat 64)) = ji7_ := hji7_
          have hji7_z : (x7_2) ≤ 64 → (IntKind.i64.wrap (1 * 2 ^ (x7_2).toNat)) = ji7_ := shl_small hji7_
          have hji7_u : (IntKind.i64.wrap (2 ^ min (x7_2).toNat 64)) = ji7_ := by have h_ := hji7__; rw [Int.one_mul] at h_; exact h_
          have hji7_v : (x7_2) ≤ 64 → (IntKind.i64.wrap (2 ^ (x7_2).toNat)) = ji7_ := fun hle_ => by have h_ := hji7_z hle_; rw [Int.one_mul] at h_; exact h_
          have hji7_y : (wrap64 (1 * 2 ^ min (x7_2).toNat 64)) = ji7_ := (i64_w _).symm.trans hji7__
          have hji7_x : (x7_2) ≤ 64 → (wrap64 (1 * 2 ^ (x7_2).toNat)) = ji7_ := fun h_ => (i64_w _).symm.trans (hji7_z h_)
          by_cases c8_ : 0 ≤ (Go.bits .xor .i64 a1 ji7_)
          · rw [if_pos c8_] at H
            have c8_b0 : decide (0 ≤ (Go.bits .xor .i64 a1 ji7_)) = true := decide_eq_true c8_
            clear c8_
            by_cases c9_ : (Go.bits .xor .i64 a1 ji7_) < 64
            · rw [if_pos c9_] at H
              have c9_b0 : decide ((Go.bits .xor .i64 a1 ji7_) < 64) = true := decide_eq_true c9_
              clear c9_
              by_cases c10_ : ((rdOf false l0 (Go.bits .xor .i64 a1 ji7_)) == a2) = true
              · rw [if_pos c10_] at H
                have c10_b0 : ((rdOf false l0 (Go.bits .xor .i64 a1 ji7_)) == a2) = true := c10_
                clear c10_
                by_cases c11_ : ((decide ((Go.bits .xor .i64 a1 ji7_) < a1)) == a2) = true
                · rw [if_pos c11_] at H
                  have c11_b0 : ((decide ((Go.bits .xor .i64 a1 ji7_) < a1)) == a2) = true := c11_
                  clear c11_
                  obtain rfl := Option.some.inj H
                  have p108 : 0 ≤ (Go.bits .xor .i64 a1 ji7_ : Int) := of_decide_eq_true (by first | (with_reducible assumption) | assumption)
                  have q108 : (Go.bits .xor .i64 a1 ji7_ : Int) < 64 := of_decide_eq_true (by first | (with_reducible assumption) | assumption)
                  have hx108 := bcell (HM.out.box 0 rfl) (Go.bits .xor .i64 a1 ji7_) p108 (by have := HL0.out; omega)
                  replace p108 := eq_true p108
                  replace q108 := eq_true q108
                  go_wp2
                  go_ret
                  exact ⟨by first | rfl | (simp; done) | (simp only [i64_w]; done) | (simp [i64_w]; done) | (simp only [← hji7_] <;> (first | rfl | (simp only [i64_w]; done) | simp)) | (simp [*]; done), HM.out.below⟩
                · rw [if_neg c11_] at H
                  have c11_b0 : ((decide ((Go.bits .xor .i64 a1 ji7_) < a1)) == a2) = false := by simpa using c11_
                  clear c11_
                  have H' := Aside0.mk H
                  clear H
                  have p108 : 0 ≤ (Go.bits .xor .i64 a1 ji7_ : Int) := of_decide_eq_true (by first | (with_reducible assumption) | assumption)
                  have q108 : (Go.bits .xor .i64 a1 ji7_ : Int) < 64 := of_decide_eq_true (by first | (with_reducible assumption) | assumption)
                  have hx108 := bcell (HM.out.box 0 rfl) (Go.bits .xor .i64 a1 ji7_) p108 (by have := HL0.out; omega)
                  replace p108 := eq_true p108
                  replace q108 := eq_true q108
                  go_wp2
                  go_roundg k4_
                  case measure => have hHK3__ := HK3_.out; omega
                  case rel => exact ⟨(wrap64 (x7_2 + 1)), (by first | rfl | (simp; done) | (simp only [i64_w]; done) | (simp [i64_w]; done) | (simp only [← hji7_] <;> (first | rfl | (simp only [i64_w]; done) | simp)) | (simp [*]; done)), H', ⟨by have hHK3__ := HK3_.out; omega⟩, HM⟩
              · rw [if_neg c10_] at H
                have c10_b0 : ((rdOf false l0 (Go.bits .xor .i64 a1 ji7_)) == a2) = false := by simpa using c10_
                clear c10_
                have H' := Aside0.mk H
                clear H
                have p108 : 0 ≤ (Go.bits .xor .i64 a1 ji7_ : Int) := of_decide_eq_true (by first | (with_reducible assumption) | assumption)
                have q108 : (Go.bits .xor .i64 a1 ji7_ : Int) < 64 := of_decide_eq_true (by first | (with_reducible assumption) | assumption)
                have hx108 := bcell (HM.out.box 0 rfl) (Go.bits .xor .i64 a1 ji7_) p108 (by have := HL0.out; omega)
                replace p108 := eq_true p108
                replace q108 := eq_true q108
                go_wp2
                go_roundg k4_
                case measure => have hHK3__ := HK3_.out; omega
                case rel => exact ⟨(wrap64 (x7_2 + 1)), (by first | rfl | (simp; done) | (simp only [i64_w]; done) | (simp [i64_w]; done) | (simp only [← hji7_] <;> (first | rfl | (simp only [i64_w]; done) | simp)) | (simp [*]; done)), H', ⟨by have hHK3__ := HK3_.out; omega⟩, HM⟩
            · rw [if_neg c9_] at H
              have c9_b0 : decide ((Go.bits .xor .i64 a1 ji7_) < 64) = false := decide_eq_false c9_
              clear c9_
              exact absurd H (by simp)
          · rw [if_neg c8_] at H
            have c8_b0 : decide (0 ≤ (Go.bits .xor .i64 a1 ji7_)) = false := decide_eq_false c8_
            clear c8_
            exact absurd H (by simp)
        · rw [if_neg c6_] at H
          have c6_b0 : decide (0 ≤ x7_2) = false := decide_eq_false c6_
          clear c6_
          exact absurd H (by simp)
      · rw [if_neg c5_] at H
        have c5_b0 : decide (x7_2 < 6) = false := decide_eq_false c5_
        clear c5_
        by_cases c12_ : 0 ≤ a1
        · rw [if_pos c12_] at H
          have c12_b0 : decide (0 ≤ a1) = true := decide_eq_true c12_
          clear c12_
          by_cases c13_ : a1 < 64
          · rw [if_pos c13_] at H
            have KNc13_ := Aside0.mk c13_
            have c13_b0 : decide (a1 < 64) = true := decide_eq_true c13_
            clear c13_
            obtain rfl := Option.some.inj H
            have p109 : 0 ≤ (a1 : Int) := of_decide_eq_true (by first | (with_reducible assumption) | assumption)
            have q109 : (a1 : Int) < 64 := of_decide_eq_true (by first | (with_reducible assumption) | assumption)
            have hx109 := bcell (HM.out.box 0 rfl) a1 p109 (by have := HL0.out; omega)
            replace p109 := eq_true p109
            replace q109 := eq_true q109
            go_wp2
            go_ret
            exact ⟨by first | rfl | (simp; done) | (simp only [i64_w]; done) | (simp [i64_w]; done) | (simp [*]; done), HM.out.below⟩
          · rw [if_neg c13_] at H
            have KNc13_ := Aside0.mk c13_
            have c13_b0 : decide (a1 < 64) = false := decide_eq_false c13_
            clear c13_
            exact absurd H (by simp)
        · rw [if_neg c12_] at H
          have c12_b0 : decide (0 ≤ a1) = false := decide_eq_false c12_
          clear c12_
          exact absurd H (by simp)

/-! ### spec_l3Edges: function 67 -/
def spec_l3Edges.l0 : Nat → (Bool) → (Int) → (List Int) → (List Bool) → Option (List Int)
  | 0, _, _, _, _ => none
  | k + 1, x1, x6, m2, m1 => if x6 < 64 then ((spec_l3Edge.f k m1 x6 x1).bind fun t111 => (if t111 = true then (if m2.length < 17592186044416 then (spec_l3Edges.l0 k x1 (wrap64 (x6 + 1)) (m2 ++ [x6]) m1) else (none)) else (spec_l3Edges.l0 k x1 (wrap64 (x6 + 1)) m2 m1))) else (some m2)
def spec_l3Edges.f (k : Nat) (l0 : List Bool) (a1 : Bool) : Option (List Int) := spec_l3Edges.l0 k a1 0 (([] : List Int)) l0
set_option maxHeartbeats 8000000 in
set_option maxRecDepth 100000 in
theorem spec_l3Edges.calls (k : Nat) (l0 : List Bool) (a1 : Bool) (r : List Int) (w : World) (hl0 : l0.length = 64) (h : spec_l3Edges.f k l0 a1 = some r) :
    Calls Try.prog 67 #[.agg (bcs l0), .bool a1] w fun e w' => ∃ v0_ : Value, e = .returned (v0_) ∧ Kd.R (Kd.int .i64) 3 w' w.heap.size (fun _ => True) v0_ r ∧ Below w.heap.size w w' := by
  have HL0 := Aside0.mk hl0
  clear hl0
  have hu48 := Try.underlying48
  have HM := Aside0.mk (MS.start w)
  have H : (spec_l3Edges.l0 k a1 0 (([] : List Int)) l0) = some r := h
  clear h
  obtain ⟨y110, hy110⟩ : ∃ y_, y_ = (([] : List Int)) := ⟨_, rfl⟩
  replace H : (spec_l3Edges.l0 k a1 0 y110 l0) = some r := by first | (rw [hy110]; with_reducible exact H) | (have H2_ := (Option.bind_some _ _).symm.trans H; rw [hy110]; with_reducible exact H2_) | (have H2_ := (Option.bind_some _ _).symm.trans H; with_reducible exact H2_) | with_reducible exact H | (rw [hy110]; exact H) | exact H
  have Ny110 := Aside0.mk hy110
  clear hy110
  have H' := Aside0.mk H
  clear H
  go_enter Try.func67, Try.ntmps67
  go_wp2_with (first | ((with_reducible refine gate_dst (N := 2) rfl ?_); refine box_event ?hg (N := 2) ?hd (cs := (bcs l0)) (t := 48) ?hr ?_; (case hd => rfl); (case hg => rfl); (case hr => first | (go_simp; done) | (go_simp; rfl)); intro gb1 hg w1_ hbox hb; have n_ := Aside0.mk (HM.out.addBox hb hbox hg); clear HM; have HM := n_; clear n_; clear hb hbox hg) | ((with_reducible refine gate_dst (N := 7) rfl ?_); refine Kd.R_lit (Kd.int .i64) _ 3 ?hg (N := 7) ?hd (xs := ([] : List Int)) (inner := []) (ok := fun _ => True) (okp := fun _ => True) ?hr ?hp (fun _ hk => hk) trivial (Below.refl _ _) (Nat.le_refl _) (by simp) ?_; (case hd => rfl); (case hg => rfl); (case hr => first | (go_simp; done) | (go_simp; rfl)); (case hp => exact (Reps.none _ _)); intro vv_ w2_ ho hb hg_ hnew_; clear hg_ hnew_; rw [← Ny110.out] at ho; obtain ⟨Ao2_0, co2_0, ev_⟩ := Kd.R_slice ho; subst ev_; have n_ := Aside0.mk (HM.out.addR hb ho); clear HM; have HM := n_; clear n_; clear hb ho))
  go_loopg [5, 6] k (fun kq v5 v6 w' => ∃ (x6_3 : Int) (Am2_3 : Option Addr) (cm2_3 : Nat) (m2_3 : List Int), v6 = .int .i64 x6_3 ∧ v5 = .slice Am2_3 m2_3.length cm2_3 ∧ Aside0 (spec_l3Edges.l0 kq a1 x6_3 m2_3 l0 = some r) ∧ Aside0 (kq ≤ k) ∧ Aside0 (MS w w' [.row 3 (.slice Am2_3 m2_3.length cm2_3) (encs (Value.int .i64) m2_3), .box gb1 48 (bcs l0)]))
  case atStart => exact ⟨(0), (Ao2_0), (co2_0), (y110), (by first | rfl | (simp; done) | (simp only [i64_w]; done) | (simp [i64_w]; done) | (simp [*]; done)), (by first | rfl | (simp; done) | (simp only [i64_w]; done) | (simp [i64_w]; done) | (simp [*]; done)), H', ⟨Nat.le_refl _⟩, HM⟩
  case round =>
    clear H'
    clear HM
    obtain ⟨x6_3, Am2_3, cm2_3, m2_3, rfl, rfl, HA, HK4_, HM⟩ := hrel
    cases gk with
    | zero => exact absurd HA.out (by simp [spec_l3Edges.l0])
    | succ k5_ =>
      have H := HA.out
      clear HA
      simp only [spec_l3Edges.l0] at H
      by_cases c6_ : x6_3 < 64
      · rw [if_pos c6_] at H
        have c6_b0 : decide (x6_3 < 64) = true := decide_eq_true c6_
        clear c6_
        replace H := Option.bind_eq_some_iff.mp H
        obtain ⟨t111, A7_0, H⟩ := H
        replace H : (if t111 = true then (if m2_3.length < 17592186044416 then (spec_l3Edges.l0 k5_ a1 (wrap64 (x6_3 + 1)) (m2_3 ++ [x6_3]) l0) else (none)) else (spec_l3Edges.l0 k5_ a1 (wrap64 (x6_3 + 1)) m2_3 l0)) = some r := H
        have A7_ := Aside0.mk A7_0
        clear A7_0
        by_cases c8_ : t111 = true
        · subst c8_
          have H1 : (if m2_3.length < 17592186044416 then (spec_l3Edges.l0 k5_ a1 (wrap64 (x6_3 + 1)) (m2_3 ++ [x6_3]) l0) else (none)) = some r := by rw [if_pos rfl] at H; exact H
          clear H
          have H := H1
          clear H1
          by_cases c9_ : m2_3.length < 17592186044416
          · rw [if_pos c9_] at H
            have LMc9_ := Aside0.mk c9_
            clear c9_
            obtain ⟨y112, hy112⟩ : ∃ y_, y_ = (m2_3 ++ [x6_3]) := ⟨_, rfl⟩
            replace H : (spec_l3Edges.l0 k5_ a1 (wrap64 (x6_3 + 1)) y112 l0) = some r := by first | (rw [hy112]; with_reducible exact H) | (have H2_ := (Option.bind_some _ _).symm.trans H; rw [hy112]; with_reducible exact H2_) | (have H2_ := (Option.bind_some _ _).symm.trans H; with_reducible exact H2_) | with_reducible exact H | (rw [hy112]; exact H) | exact H
            have Ny112 := Aside0.mk hy112
            clear hy112
            have H' := Aside0.mk H
            clear H
            go_wp2_with (first | ((with_reducible refine gate_dst (N := 12) rfl ?_); refine wpList_load_row rfl _ _ rfl gb1 rfl 48 (bcs l0) (0, 0) _ (HM.out.box 1 rfl) Try.underlying48 rfl (by rw [bcs_size, HL0.out]; kernel_rfl) ?_) | ((with_reducible refine gate_callee (f := 90) rfl ?_); (with_reducible refine gate_dst (N := 15) rfl ?_); refine goesL_ (some 15) rfl rfl Try.func90 (by kernel_rfl) rfl #[.agg (bcs l0), .int .i64 x6_3, .bool a1] rfl (by (try simp only [List.map_toArray, List.map_cons, List.map_nil]); first | done | rfl | (simp only [List.length_drop, List.length_take]; rfl)) ?_; (with_reducible refine (spec_l3Edge.calls k5_ l0 x6_3 a1 true _ ?sd0 A7_.out).mono ?_); (case sd0 => exact HL0.out); rintro e_ w10_ ⟨rfl, hb⟩; refine ⟨_, rfl, ?_⟩; have n_ := Aside0.mk (HM.out.step hb); clear HM; have HM := n_; clear n_; clear hb) | ((with_reducible refine gate_builtin (b := .append) (xs := #[.tmp 16, .tmp 18]) rfl ?_); at_builtin; refine Kd.R_append (Kd.int .i64) (w0 := w) w.heap.size rfl (.tmp 16) (.tmp 18) 22 3 (.int .i64 0) 8 rfl Try.underlying22 info3 rfl (by decide) (by omega) (.slice Am2_3 m2_3.length cm2_3) m2_3 x6_3 [.int .i64 x6_3] (fun _ => True) (fun _ => False) rfl rfl ?aP (fun _ hk => hk.elim) ?aF ?aO ?aB ?aS ?aL ?_; (case aP => exact rfl); (case aB => exact HM.out.below); (case aF => exact (fun _ _ => trivial)); (case aO => exact (HM.out.R 0 rfl)); (case aS => exact HM.out.size); (case aL => have := LMc9_.out; omega); intro vv_ w11_ ho hb hg hat; rw [← Ny112.out] at ho; have n_ := Aside0.mk (HM.out.grow 0 rfl ho hb hg hat); clear HM; have HM := n_; clear n_; obtain ⟨Ao2_y112, co2_y112, ev_⟩ := Kd.R_slice ho; subst ev_; clear ho hb hg hat; have n_ : Aside0 (MS w w11_ [.row 3 (.slice Ao2_y112 y112.length co2_y112) (encs (Value.int .i64) y112), .box gb1 48 (bcs l0)]) := ⟨HM.out⟩; clear HM; have HM := n_; clear n_))
            go_roundg k5_
            case measure => have hHK4__ := HK4_.out; omega
            case rel => exact ⟨(wrap64 (x6_3 + 1)), (Ao2_y112), (co2_y112), (y112), (by first | rfl | (simp; done) | (simp only [i64_w]; done) | (simp [i64_w]; done) | (simp [*]; done)), (by first | rfl | (simp; done) | (simp only [i64_w]; done) | (simp [i64_w]; done) | (simp [*]; done)), H', ⟨by have hHK4__ := HK4_.out; omega⟩, HM⟩
          · rw [if_neg c9_] at H
            clear c9_
            exact absurd H (by simp)
        · replace c8_ := Bool.eq_false_iff.mpr c8_
          subst c8_
          have H1 : (spec_l3Edges.l0 k5_ a1 (wrap64 (x6_3 + 1)) m2_3 l0) = some r := by rw [if_neg (show ¬ (false = true) by decide)] at H; exact H
          clear H
          have H := H1
          clear H1
          have H' := Aside0.mk H
          clear H
          go_wp2_with (first | ((with_reducible refine gate_dst (N := 12) rfl ?_); refine wpList_load_row rfl _ _ rfl gb1 rfl 48 (bcs l0) (0, 0) _ (HM.out.box 1 rfl) Try.underlying48 rfl (by rw [bcs_size, HL0.out]; kernel_rfl) ?_) | ((with_reducible refine gate_callee (f := 90) rfl ?_); (with_reducible refine gate_dst (N := 15) rfl ?_); refine goesL_ (some 15) rfl rfl Try.func90 (by kernel_rfl) rfl #[.agg (bcs l0), .int .i64 x6_3, .bool a1] rfl (by (try simp only [List.map_toArray, List.map_cons, List.map_nil]); first | done | rfl | (simp only [List.length_drop, List.length_take]; rfl)) ?_; (with_reducible refine (spec_l3Edge.calls k5_ l0 x6_3 a1 false _ ?sd0 A7_.out).mono ?_); (case sd0 => exact HL0.out); rintro e_ w12_ ⟨rfl, hb⟩; refine ⟨_, rfl, ?_⟩; have n_ := Aside0.mk (HM.out.step hb); clear HM; have HM := n_; clear n_; clear hb))
          go_roundg k5_
          case measure => have hHK4__ := HK4_.out; omega
          case rel => exact ⟨(wrap64 (x6_3 + 1)), (Am2_3), (cm2_3), (m2_3), (by first | rfl | (simp; done) | (simp only [i64_w]; done) | (simp [i64_w]; done) | (simp [*]; done)), (by first | rfl | (simp; done) | (simp only [i64_w]; done) | (simp [i64_w]; done) | (simp [*]; done)), H', ⟨by have hHK4__ := HK4_.out; omega⟩, HM⟩
      · rw [if_neg c6_] at H
        have c6_b0 : decide (x6_3 < 64) = false := decide_eq_false c6_
        clear c6_
        obtain rfl := Option.some.inj H
        go_wp2
        go_ret
        exact ⟨_, by first | rfl | (simp; done) | (simp only [i64_w]; done) | (simp [i64_w]; done) | (simp [*]; done), HM.out.R 0 rfl, HM.out.below⟩

/-! ### spec_l5Made: function 40 -/
def spec_l5Made.f (k : Nat) (l0 : List Bool) : Option (List Int) := (spec_l3Edges.f k l0 true).bind fun t113 => (some t113)
set_option maxHeartbeats 8000000 in
set_option maxRecDepth 100000 in
theorem spec_l5Made.calls (k : Nat) (l0 : List Bool) (r : List Int) (w : World) (hl0 : l0.length = 64) (h : spec_l5Made.f k l0 = some r) :
    Calls Try.prog 40 #[.agg (bcs l0)] w fun e w' => ∃ v0_ : Value, e = .returned (.agg #[v0_]) ∧ Kd.R (Kd.int .i64) 3 w' w.heap.size (fun _ => True) v0_ r ∧ Below w.heap.size w w' := by
  have HL0 := Aside0.mk hl0
  clear hl0
  have hu30 := Try.underlying30
  have hu48 := Try.underlying48
  have HM := Aside0.mk (MS.start w)
  have H : ((spec_l3Edges.f k l0 true).bind fun t113 => (some t113)) = some r := h
  clear h
  replace H := Option.bind_eq_some_iff.mp H
  obtain ⟨t113, A1_0, H⟩ := H
  replace H : (some t113) = some r := H
  have A1_ := Aside0.mk A1_0
  clear A1_0
  obtain rfl := Option.some.inj H
  go_enter Try.func40, Try.ntmps40
  go_wp2_with (first | ((with_reducible refine gate_dst (N := 1) rfl ?_); refine box_event ?hg (N := 1) ?hd (cs := (bcs l0)) (t := 48) ?hr ?_; (case hd => rfl); (case hg => rfl); (case hr => first | (go_simp; done) | (go_simp; rfl)); intro gb1 hg w2_ hbox hb; have n_ := Aside0.mk (HM.out.addBox hb hbox hg); clear HM; have HM := n_; clear n_; clear hb hbox hg) | ((with_reducible refine gate_dst (N := 2) rfl ?_); refine box_event ?hg (N := 2) ?hd (cs := #[.slice none 0 0]) (t := 30) ?hr ?_; (case hd => rfl); (case hg => rfl); (case hr => first | (go_simp; done) | (go_simp; rfl)); intro gb2 hg w3_ hbox hb; have n_ := Aside0.mk (HM.out.addBox hb hbox hg); clear HM; have HM := n_; clear n_; clear hb hbox hg) | ((with_reducible refine gate_dst (N := 3) rfl ?_); refine wpList_load_row rfl _ _ rfl gb1 rfl 48 (bcs l0) (0, 0) _ (HM.out.box 1 rfl) Try.underlying48 rfl (by rw [bcs_size, HL0.out]; kernel_rfl) ?_) | ((with_reducible refine gate_callee (f := 67) rfl ?_); (with_reducible refine gate_dst (N := 4) rfl ?_); refine goesL_ (some 4) rfl rfl Try.func67 (by kernel_rfl) rfl #[.agg (bcs l0), .bool true] rfl (by (try simp only [List.map_toArray, List.map_cons, List.map_nil]); first | done | rfl | (simp only [List.length_drop, List.length_take]; rfl)) ?_; (with_reducible refine (spec_l3Edges.calls k l0 true t113 _ ?sd0 A1_.out).mono ?_); (case sd0 => exact HL0.out); rintro e_ w4_ ⟨vv0_, rfl, ho0_, hb⟩; refine ⟨_, rfl, ?_⟩; obtain ⟨Ao3_0, co3_0, ev_⟩ := Kd.R_slice ho0_; subst ev_; have n_ := Aside0.mk (HM.out.addR hb ho0_); clear HM; have HM := n_; clear n_; clear hb ho0_; have hcz6_0 : w4_.cell? ⟨gb2, 0, none⟩ = some (.slice none 0 0) := (blk_cell (HM.out.box 1 rfl) 0).trans rfl; have hfz6_0 := blk_frozen (HM.out.box 1 rfl) 0) | ((with_reducible refine gate_store (t := 30) (p := 2) rfl ?_); refine store_event (t := 30) (p := 2) (v := ?vow5_) (w1 := (w4_.setCell ⟨gb2, 0, none⟩ (.slice Ao3_0 t113.length co3_0))) ?hg ?ho ?hn ?hr ?_; (case ho => rfl); (case hg => rfl); (case hn => rfl); (case hr => first | (go_simp; done) | (go_simp; rfl)); intro w5_ hw; have n_ : Aside0 (MS w w5_ [.row 3 (.slice Ao3_0 t113.length co3_0) (encs (Value.int .i64) t113), .box gb2 30 #[.slice Ao3_0 t113.length co3_0], .box gb1 48 (bcs l0)]) := ⟨by rw [hw]; exact HM.out.setBox 1 rfl _ _ rfl⟩; clear HM hw; have HM := n_; clear n_))
  refine bodyPost_ret (results_cell_row rfl _ _ gb2 30 #[.slice Ao3_0 t113.length co3_0] (0, 0) _ rfl (HM.out.box 1 rfl) Try.underlying30 rfl (by kernel_rfl)) rfl ?_
  exact ⟨_, by first | rfl | (simp; done) | (simp only [i64_w]; done) | (simp [i64_w]; done) | (simp [*]; done), HM.out.R 0 rfl, HM.out.below⟩

/-! ### spec_FamilyOfWord: function 15 -/
def spec_FamilyOfWord.f (k : Nat) (l0 : List Int) : Option (List Int × Bool) := (spec_l2Word.f k l0).bind fun t114 => (if t114 = true then ((spec_l3Table.f k l0).bind fun t115 => ((spec_l5Made.f k t115).bind fun t116 => (some (t116, true)))) else (some ([], false)))
set_option maxHeartbeats 8000000 in
set_option maxRecDepth 100000 in
theorem spec_FamilyOfWord.calls (k : Nat) (A0 : Option Addr) (c0 : Nat) (l0 : List Int) (r1 : List Int) (r2 : Bool) (w : World) (hr0 : Kd.C (Kd.int .i64) w A0 l0.length l0) (hc0 : l0.length ≤ c0) (h : spec_FamilyOfWord.f k l0 = some (r1, r2)) :
    Calls Try.prog 15 #[.slice A0 l0.length c0] w fun e w' => ∃ v0_ : Value, e = .returned (.tuple #[.agg #[v0_], .bool r2]) ∧ Kd.R (Kd.int .i64) 3 w' w.heap.size (fun _ => True) v0_ r1 ∧ Below w.heap.size w w' := by
  have HR0 := Aside0.mk hr0
  have HC0 := Aside0.mk hc0
  clear hr0 hc0
  have hu30 := Try.underlying30
  have HM := Aside0.mk (MS.start w)
  have H : ((spec_l2Word.f k l0).bind fun t114 => (if t114 = true then ((spec_l3Table.f k l0).bind fun t115 => ((spec_l5Made.f k t115).bind fun t116 => (some (t116, true)))) else (some ([], false)))) = some (r1, r2) := h
  clear h
  replace H := Option.bind_eq_some_iff.mp H
  obtain ⟨t114, A1_0, H⟩ := H
  replace H : (if t114 = true then ((spec_l3Table.f k l0).bind fun t115 => ((spec_l5Made.f k t115).bind fun t116 => (some (t116, true)))) else (some ([], false))) = some (r1, r2) := H
  have A1_ := Aside0.mk A1_0
  clear A1_0
  by_cases c2_ : t114 = true
  · subst c2_
    have H1 : ((spec_l3Table.f k l0).bind fun t115 => ((spec_l5Made.f k t115).bind fun t116 => (some (t116, true)))) = some (r1, r2) := by rw [if_pos rfl] at H; exact H
    clear H
    have H := H1
    clear H1
    replace H := Option.bind_eq_some_iff.mp H
    obtain ⟨t115, A3_0, H⟩ := H
    replace H : ((spec_l5Made.f k t115).bind fun t116 => (some (t116, true))) = some (r1, r2) := H
    have A3_ := Aside0.mk A3_0
    clear A3_0
    replace H := Option.bind_eq_some_iff.mp H
    obtain ⟨t116, A4_0, H⟩ := H
    replace H : (some (t116, true)) = some (r1, r2) := H
    have A4_ := Aside0.mk A4_0
    clear A4_0
    simp only [Option.some.injEq, Prod.mk.injEq] at H
    obtain ⟨rfl, rfl⟩ := H
    go_enter Try.func15, Try.ntmps15
    go_wp2_with (first | ((with_reducible refine gate_dst (N := 2) rfl ?_); refine box_event ?hg (N := 2) ?hd (cs := #[.slice none 0 0]) (t := 30) ?hr ?_; (case hd => rfl); (case hg => rfl); (case hr => first | (go_simp; done) | (go_simp; rfl)); intro gb1 hg w5_ hbox hb; have n_ := Aside0.mk (HM.out.addBox hb hbox hg); clear HM; have HM := n_; clear n_; clear hb hbox hg) | ((with_reducible refine gate_callee (f := 30) rfl ?_); (with_reducible refine gate_dst (N := 5) rfl ?_); refine goesL_ (some 5) rfl rfl Try.func30 (by kernel_rfl) rfl #[.slice A0 l0.length c0] rfl (by (try simp only [List.map_toArray, List.map_cons, List.map_nil]); first | done | rfl | (simp only [List.length_drop, List.length_take]; rfl)) ?_; (with_reducible refine (spec_l2Word.calls k _ _ l0 true _ ?sd0 ?sd1 A1_.out).mono ?_); (case sd0 => exact (Kd.C_below HR0.out HM.out.below)); (case sd1 => exact HC0.out); rintro e_ w6_ ⟨rfl, hd_⟩; refine ⟨_, rfl, ?_⟩; have hb := hd_.below; clear hd_; have n_ := Aside0.mk (HM.out.step hb); clear HM; have HM := n_; clear n_; clear hb) | ((with_reducible refine gate_callee (f := 32) rfl ?_); (with_reducible refine gate_dst (N := 9) rfl ?_); refine goesL_ (some 9) rfl rfl Try.func32 (by kernel_rfl) rfl #[.slice A0 l0.length c0] rfl (by (try simp only [List.map_toArray, List.map_cons, List.map_nil]); first | done | rfl | (simp only [List.length_drop, List.length_take]; rfl)) ?_; (with_reducible refine (spec_l3Table.calls k _ _ l0 t115 _ ?sd0 ?sd1 A3_.out).mono ?_); (case sd0 => exact (Kd.C_below HR0.out HM.out.below)); (case sd1 => exact HC0.out); rintro e_ w7_ ⟨rfl, ho0_, hb⟩; refine ⟨_, rfl, ?_⟩; have HLt115 := Aside0.mk ho0_; have n_ := Aside0.mk (HM.out.step hb); clear HM; have HM := n_; clear n_; clear hb ho0_) | ((with_reducible refine gate_callee (f := 40) rfl ?_); (with_reducible refine gate_dst (N := 10) rfl ?_); refine goesL_ (some 10) rfl rfl Try.func40 (by kernel_rfl) rfl #[.agg (bcs t115)] rfl (by (try simp only [List.map_toArray, List.map_cons, List.map_nil]); first | done | rfl | (simp only [List.length_drop, List.length_take]; rfl)) ?_; (with_reducible refine (spec_l5Made.calls k t115 t116 _ ?sd0 A4_.out).mono ?_); (case sd0 => exact HLt115.out); rintro e_ w8_ ⟨vv0_, rfl, ho0_, hb⟩; refine ⟨_, rfl, ?_⟩; obtain ⟨Ao2_0, co2_0, ev_⟩ := Kd.R_slice ho0_; subst ev_; have n_ := Aside0.mk (HM.out.addR hb ho0_); clear HM; have HM := n_; clear n_; clear hb ho0_; have hcz10_0 : w8_.cell? ⟨gb1, 0, none⟩ = some (.slice none 0 0) := (blk_cell (HM.out.box 1 rfl) 0).trans rfl; have hfz10_0 := blk_frozen (HM.out.box 1 rfl) 0) | ((with_reducible refine gate_store (t := 30) (p := 2) rfl ?_); refine store_event (t := 30) (p := 2) (v := ?vow9_) (w1 := (w8_.setCell ⟨gb1, 0, none⟩ (.slice Ao2_0 t116.length co2_0))) ?hg ?ho ?hn ?hr ?_; (case ho => rfl); (case hg => rfl); (case hn => rfl); (case hr => first | (go_simp; done) | (go_simp; rfl)); intro w9_ hw; have n_ : Aside0 (MS w w9_ [.row 3 (.slice Ao2_0 t116.length co2_0) (encs (Value.int .i64) t116), .box gb1 30 #[.slice Ao2_0 t116.length co2_0]]) := ⟨by rw [hw]; exact HM.out.setBox 1 rfl _ _ rfl⟩; clear HM hw; have HM := n_; clear n_))
    refine bodyPost_ret (results_ct rfl _ _ gb1 30 #[.slice Ao2_0 t116.length co2_0] (0, 0) _ rfl (HM.out.box 1 rfl) Try.underlying30 rfl (by kernel_rfl)) rfl ?_
    exact ⟨_, by first | rfl | (simp; done) | (simp only [i64_w]; done) | (simp [i64_w]; done) | (simp [*]; done), HM.out.R 0 rfl, HM.out.below⟩
  · replace c2_ := Bool.eq_false_iff.mpr c2_
    subst c2_
    have H1 : (some ([], false)) = some (r1, r2) := by rw [if_neg (show ¬ (false = true) by decide)] at H; exact H
    clear H
    have H := H1
    clear H1
    simp only [Option.some.injEq, Prod.mk.injEq] at H
    obtain ⟨rfl, rfl⟩ := H
    go_enter Try.func15, Try.ntmps15
    go_wp2_with (first | ((with_reducible refine gate_dst (N := 2) rfl ?_); refine box_event ?hg (N := 2) ?hd (cs := #[.slice none 0 0]) (t := 30) ?hr ?_; (case hd => rfl); (case hg => rfl); (case hr => first | (go_simp; done) | (go_simp; rfl)); intro gb1 hg w11_ hbox hb; have n_ := Aside0.mk (HM.out.addBox hb hbox hg); clear HM; have HM := n_; clear n_; clear hb hbox hg) | ((with_reducible refine gate_callee (f := 30) rfl ?_); (with_reducible refine gate_dst (N := 5) rfl ?_); refine goesL_ (some 5) rfl rfl Try.func30 (by kernel_rfl) rfl #[.slice A0 l0.length c0] rfl (by (try simp only [List.map_toArray, List.map_cons, List.map_nil]); first | done | rfl | (simp only [List.length_drop, List.length_take]; rfl)) ?_; (with_reducible refine (spec_l2Word.calls k _ _ l0 false _ ?sd0 ?sd1 A1_.out).mono ?_); (case sd0 => exact (Kd.C_below HR0.out HM.out.below)); (case sd1 => exact HC0.out); rintro e_ w12_ ⟨rfl, hd_⟩; refine ⟨_, rfl, ?_⟩; have hb := hd_.below; clear hd_; have n_ := Aside0.mk (HM.out.step hb); clear HM; have HM := n_; clear n_; clear hb; have hcz14_0 : w12_.cell? ⟨gb1, 0, none⟩ = some (.slice none 0 0) := (blk_cell (HM.out.box 0 rfl) 0).trans rfl; have hfz14_0 := blk_frozen (HM.out.box 0 rfl) 0) | ((with_reducible refine gate_store (t := 30) (p := 2) rfl ?_); refine store_event (t := 30) (p := 2) (v := ?vow13_) (w1 := (w12_.setCell ⟨gb1, 0, none⟩ (.slice none 0 0))) ?hg ?ho ?hn ?hr ?_; (case ho => rfl); (case hg => rfl); (case hn => rfl); (case hr => first | (go_simp; done) | (go_simp; rfl)); intro w13_ hw; have n_ : Aside0 (MS w w13_ [.box gb1 30 #[.slice none 0 0]]) := ⟨by rw [hw]; exact HM.out.setBox 0 rfl _ _ rfl⟩; clear HM hw; have HM := n_; clear n_))
    refine bodyPost_ret (results_ct rfl _ _ gb1 30 #[.slice none 0 0] (0, 0) _ rfl (HM.out.box 0 rfl) Try.underlying30 rfl (by kernel_rfl)) rfl ?_
    exact ⟨_, by first | rfl | (simp; done) | (simp only [i64_w]; done) | (simp [i64_w]; done) | (simp [*]; done), Kd.R_nil _ _ _ _ _, HM.out.below⟩

/-! ### impl_isLetter: function 65 -/
def impl_isLetter.f (a0 : Int) : Option (Bool) := if a0 = 0 then (some false) else (if a0 ≥ (-6) then (some (decide (a0 ≤ 6))) else (some false))
set_option maxHeartbeats 8000000 in
set_option maxRecDepth 100000 in
theorem impl_isLetter.calls (a0 : Int) (r : Bool) (w : World)  (h : impl_isLetter.f a0 = some r) :
    Calls Try.prog 65 #[.int .i64 a0] w fun e w' => e = .returned (.bool r) ∧ Drawn0 w w' := by
  have HM := Aside0.mk (MS.start w)
  have HD := Aside0.mk (Drawn0.refl w)
  have H : (if a0 = 0 then (some false) else (if a0 ≥ (-6) then (some (decide (a0 ≤ 6))) else (some false))) = some r := h
  clear h
  by_cases c1_ : a0 = 0
  · rw [if_pos c1_] at H
    have KNc1_ := Aside0.mk c1_
    have c1_b0 : (a0 == 0) = true := beq_iff_eq.mpr c1_
    have c1_b1 : (a0 != 0) = false := bne_eq_false_iff_eq.mpr c1_
    clear c1_
    obtain rfl := Option.some.inj H
    go_enter Try.func65, Try.ntmps65
    go_wp2
    go_ret
    exact ⟨by first | rfl | (simp; done) | (simp only [i64_w]; done) | (simp [i64_w]; done) | (simp [*]; done), HD.out⟩
  · rw [if_neg c1_] at H
    have KNc1_ := Aside0.mk c1_
    have c1_b0 : (a0 == 0) = false := beq_eq_false_iff_ne.mpr c1_
    have c1_b1 : (a0 != 0) = true := bne_iff_ne.mpr c1_
    clear c1_
    by_cases c2_ : a0 ≥ (-6)
    · rw [if_pos c2_] at H
      have KNc2_ := Aside0.mk c2_
      have c2_b0 : decide ((-6) ≤ a0) = true := decide_eq_true c2_
      clear c2_
      obtain rfl := Option.some.inj H
      go_enter Try.func65, Try.ntmps65
      go_wp2
      go_ret
      exact ⟨by first | rfl | (simp; done) | (simp only [i64_w]; done) | (simp [i64_w]; done) | (simp [*]; done), HD.out⟩
    · rw [if_neg c2_] at H
      have KNc2_ := Aside0.mk c2_
      have c2_b0 : decide ((-6) ≤ a0) = false := decide_eq_false c2_
      clear c2_
      obtain rfl := Option.some.inj H
      go_enter Try.func65, Try.ntmps65
      go_wp2
      go_ret
      exact ⟨by first | rfl | (simp; done) | (simp only [i64_w]; done) | (simp [i64_w]; done) | (simp [*]; done), HD.out⟩

/-! ### impl_isWord_1: function 64 -/
def impl_isWord_1.f (a0 : Int) : Option (Bool) := (impl_isLetter.f a0).bind fun t117 => (some (!t117))
set_option maxHeartbeats 8000000 in
set_option maxRecDepth 100000 in
theorem impl_isWord_1.calls (a0 : Int) (r : Bool) (w : World)  (h : impl_isWord_1.f a0 = some r) :
    Calls Try.prog 64 #[.int .i64 a0] w fun e w' => e = .returned (.bool r) ∧ Drawn0 w w' := by
  have HM := Aside0.mk (MS.start w)
  have HD := Aside0.mk (Drawn0.refl w)
  have H : ((impl_isLetter.f a0).bind fun t117 => (some (!t117))) = some r := h
  clear h
  replace H := Option.bind_eq_some_iff.mp H
  obtain ⟨t117, A1_0, H⟩ := H
  replace H : (some (!t117)) = some r := H
  have A1_ := Aside0.mk A1_0
  clear A1_0
  obtain rfl := Option.some.inj H
  go_enter Try.func64, Try.ntmps64
  go_wp2_with (first | ((with_reducible refine gate_callee (f := 65) rfl ?_); (with_reducible refine gate_dst (N := 4) rfl ?_); refine goesL_ (some 4) rfl rfl Try.func65 (by kernel_rfl) rfl #[.int .i64 a0] rfl (by (try simp only [List.map_toArray, List.map_cons, List.map_nil]); first | done | rfl | (simp only [List.length_drop, List.length_take]; rfl)) ?_; (with_reducible refine (impl_isLetter.calls a0 t117 _  A1_.out).mono ?_); rintro e_ w2_ ⟨rfl, hd_⟩; refine ⟨_, rfl, ?_⟩; have hb := hd_.below; have nd_ := Aside0.mk (HD.out.trans hd_); clear HD; have HD := nd_; clear nd_; clear hd_; have n_ := Aside0.mk (HM.out.step hb); clear HM; have HM := n_; clear n_; clear hb))
  go_ret
  exact ⟨by first | rfl | (simp; done) | (simp only [i64_w]; done) | (simp [i64_w]; done) | (simp [*]; done), HD.out⟩

/-! ### impl_isWord: function 35 -/
def impl_isWord.f (k : Nat) (l0 : List Int) : Option (Bool) := if (l0.length : Int) ≤ 64 then ((slices_ContainsFunc_int_int.f k l0 (fun x_ => impl_isWord_1.f x_)).bind fun t119 => (some (!t119))) else (some false)
set_option maxHeartbeats 8000000 in
set_option maxRecDepth 100000 in
theorem impl_isWord.calls (k : Nat) (A0 : Option Addr) (c0 : Nat) (l0 : List Int) (r : Bool) (w : World) (hr0 : Kd.C (Kd.int .i64) w A0 l0.length l0) (hc0 : l0.length ≤ c0) (h : impl_isWord.f k l0 = some r) :
    Calls Try.prog 35 #[.slice A0 l0.length c0] w fun e w' => e = .returned (.bool r) ∧ Below w.heap.size w w' := by
  have HR0 := Aside0.mk hr0
  have HC0 := Aside0.mk hc0
  clear hr0 hc0
  have HM := Aside0.mk (MS.start w)
  have H : (if (l0.length : Int) ≤ 64 then ((slices_ContainsFunc_int_int.f k l0 (fun x_ => impl_isWord_1.f x_)).bind fun t119 => (some (!t119))) else (some false)) = some r := h
  clear h
  by_cases c1_ : (l0.length : Int) ≤ 64
  · rw [if_pos c1_] at H
    have c1_b0 : decide ((l0.length : Int) ≤ 64) = true := decide_eq_true c1_
    have c1_b1 : decide (l0.length ≤ 64) = true := decide_eq_true (by omega)
    clear c1_
    replace H := Option.bind_eq_some_iff.mp H
    obtain ⟨t119, A2_0, H⟩ := H
    replace H : (some (!t119)) = some r := H
    have A2_ := Aside0.mk A2_0
    clear A2_0
    obtain rfl := Option.some.inj H
    have fv118 := Aside0.mk (show FnB Try.prog w (.func (.func 64) #[] #[]) (fun x_ => impl_isWord_1.f x_) from FnB.mk Try.func64 rfl rfl (fun W_ hW_ x_ r_ hr_ => (show Calls Try.prog 64 #[.int .i64 x_] W_ _ from drawn_calls (impl_isWord_1.calls x_ r_ W_  hr_))))
    go_enter Try.func35, Try.ntmps35
    go_wp2_with (first | (go_at_call 63; (refine calls_of_args (args' := #[.slice A0 l0.length c0, .func (.func 64) #[] #[]]) (by first | done | rfl) ?_); (with_reducible refine (slices_ContainsFunc_int_int.calls k _ _ l0 _ (fun x_ => impl_isWord_1.f x_) t119 _ ?sd0 ?sd1 ?sd2 A2_.out).mono ?_); (case sd0 => exact (Kd.C_below HR0.out HM.out.below)); (case sd1 => exact HC0.out); (case sd2 => exact fv118.out); rintro e_ w3_ ⟨rfl, hb⟩; have n_ := Aside0.mk (HM.out.step hb); clear HM; have HM := n_; clear n_; clear hb))
    go_ret
    exact ⟨by first | rfl | (simp; done) | (simp only [i64_w]; done) | (simp [i64_w]; done) | (simp [*]; done), HM.out.below⟩
  · rw [if_neg c1_] at H
    have c1_b0 : decide ((l0.length : Int) ≤ 64) = false := decide_eq_false c1_
    have c1_b1 : decide (l0.length ≤ 64) = false := decide_eq_false (by omega)
    clear c1_
    obtain rfl := Option.some.inj H
    go_enter Try.func35, Try.ntmps35
    go_wp2
    go_ret
    exact ⟨by first | rfl | (simp; done) | (simp only [i64_w]; done) | (simp [i64_w]; done) | (simp [*]; done), HM.out.below⟩

/-! ### impl_nail: function 81 -/
def impl_nail.f (a0 : Int) : Option (Int) := some (mx a0 (wrap64 (-a0)))
set_option maxHeartbeats 8000000 in
set_option maxRecDepth 100000 in
theorem impl_nail.calls (a0 : Int) (r : Int) (w : World)  (h : impl_nail.f a0 = some r) :
    Calls Try.prog 81 #[.int .i64 a0] w fun e w' => e = .returned (.int .i64 r) ∧ Drawn0 w w' := by
  have HM := Aside0.mk (MS.start w)
  have HD := Aside0.mk (Drawn0.refl w)
  have H : (some (mx a0 (wrap64 (-a0)))) = some r := h
  clear h
  obtain ⟨ji1_, hji1_⟩ : ∃ j_ : Int, (mx a0 (wrap64 (-a0))) = j_ := ⟨_, rfl⟩
  replace H : (some ji1_) = some r := by first | (rw [hji1_] at H; exact H) | (simp only [hji1_] at H ⊢; exact H)
  have hji1__ : (if a0 < (wrap64 (-a0)) then (wrap64 (-a0)) else a0) = ji1_ := hji1_
  obtain rfl := Option.some.inj H
  go_enter Try.func81, Try.ntmps81
  go_wp2
  go_ret
  exact ⟨by first | rfl | (simp; done) | (simp only [i64_w]; done) | (simp [i64_w]; done) | (simp only [← hji1_] <;> (first | rfl | (simp only [i64_w]; done) | simp)) | (simp [*]; done), HD.out⟩

/-! ### impl_nailBit: function 98 -/
def impl_nailBit.f (a0 : Int) : Option (Int) := (impl_nail.f a0).bind fun t120 => (if 0 ≤ (wrap64 (t120 - 1)) then (some (shl .i64 1 (wrap64 (t120 - 1)))) else (none))
set_option maxHeartbeats 8000000 in
set_option maxRecDepth 100000 in
theorem impl_nailBit.calls (a0 : Int) (r : Int) (w : World)  (h : impl_nailBit.f a0 = some r) :
    Calls Try.prog 98 #[.int .i64 a0] w fun e w' => e = .returned (.int .i64 r) ∧ Drawn0 w w' := by
  have HM := Aside0.mk (MS.start w)
  have HD := Aside0.mk (Drawn0.refl w)
  have H : ((impl_nail.f a0).bind fun t120 => (if 0 ≤ (wrap64 (t120 - 1)) then (some (shl .i64 1 (wrap64 (t120 - 1)))) else (none))) = some r := h
  clear h
  replace H := Option.bind_eq_some_iff.mp H
  obtain ⟨t120, A1_0, H⟩ := H
  replace H : (if 0 ≤ (wrap64 (t120 - 1)) then (some (shl .i64 1 (wrap64 (t120 - 1)))) else (none)) = some r := H
  have A1_ := Aside0.mk A1_0
  clear A1_0
  obtain ⟨ji2_, hji2_⟩ : ∃ j_ : Int, (wrap64 (t120 - 1)) = j_ := ⟨_, rfl⟩
  replace H : (if 0 ≤ ji2_ then (some (shl .i64 1 ji2_)) else (none)) = some r := by first | (rw [hji2_] at H; exact H) | (simp only [hji2_] at H ⊢; exact H)
  have hji2_w : (IntKind.i64.wrap (t120 - 1)) = ji2_ := (i64_w _).trans hji2_
  (try rw [hji2_] at A1_)
  by_cases c3_ : 0 ≤ ji2_
  · rw [if_pos c3_] at H
    have c3_x := eq_true c3_
    have c3_b0 : decide (0 ≤ ji2_) = true := decide_eq_true c3_
    clear c3_
    obtain ⟨ji4_, hji4_⟩ : ∃ j_ : Int, (shl .i64 1 ji2_) = j_ := ⟨_, rfl⟩
    replace H : (some ji4_) = some r := by first | (rw [hji4_] at H; exact H) | (simp only [hji4_] at H ⊢; exact H)
    have hji4__ : (IntKind.i64.wrap (1 * 2 ^ min (ji2_).toNat 64)) = ji4_ := hji4_
    have hji4_z : (ji2_) ≤ 64 → (IntKind.i64.wrap (1 * 2 ^ (ji2_).toNat)) = ji4_ := shl_small hji4_
    have hji4_u : (IntKind.i64.wrap (2 ^ min (ji2_).toNat 64)) = ji4_ := by have h_ := hji4__; rw [Int.one_mul] at h_; exact h_
    have hji4_v : (ji2_) ≤ 64 → (IntKind.i64.wrap (2 ^ (ji2_).toNat)) = ji4_ := fun hle_ => by have h_ := hji4_z hle_; rw [Int.one_mul] at h_; exact h_
    have hji4_y : (wrap64 (1 * 2 ^ min (ji2_).toNat 64)) = ji4_ := (i64_w _).symm.trans hji4__
    have hji4_x : (ji2_) ≤ 64 → (wrap64 (1 * 2 ^ (ji2_).toNat)) = ji4_ := fun h_ => (i64_w _).symm.trans (hji4_z h_)
    obtain rfl := Option.some.inj H
    go_enter Try.func98, Try.ntmps98
    go_wp2_with (first | ((with_reducible refine gate_callee (f := 81) rfl ?_); (with_reducible refine gate_dst (N := 4) rfl ?_); refine goesL_ (some 4) rfl rfl Try.func81 (by kernel_rfl) rfl #[.int .i64 a0] rfl (by (try simp only [List.map_toArray, List.map_cons, List.map_nil]); first | done | rfl | (simp only [List.length_drop, List.length_take]; rfl)) ?_; (with_reducible refine (impl_nail.calls a0 t120 _  A1_.out).mono ?_); rintro e_ w5_ ⟨rfl, hd_⟩; refine ⟨_, rfl, ?_⟩; have hb := hd_.below; have nd_ := Aside0.mk (HD.out.trans hd_); clear HD; have HD := nd_; clear nd_; clear hd_; have n_ := Aside0.mk (HM.out.step hb); clear HM; have HM := n_; clear n_; clear hb))
    go_ret
    exact ⟨by first | rfl | (simp; done) | (simp only [i64_w]; done) | (simp [i64_w]; done) | (simp only [← hji2_, ← hji4_] <;> (first | rfl | (simp only [i64_w]; done) | simp)) | (simp [*]; done), HD.out⟩
  · rw [if_neg c3_] at H
    have c3_b0 : decide (0 ≤ ji2_) = false := decide_eq_false c3_
    clear c3_
    exact absurd H (by simp)

/-! ### impl_taken_1: function 97 -/
def impl_taken_1.f (a0 : Int) (a1 : Int) : Option (Bool) := (impl_nailBit.f a0).bind fun t121 => (some ((Go.bits .and .i64 a1 t121) != 0))
set_option maxHeartbeats 8000000 in
set_option maxRecDepth 100000 in
theorem impl_taken_1.calls (a0 : Int) (gb1 : Nat) (a1 : Int) (r : Bool) (w : World) (hq1 : w.heap[gb1]? = some (.cells #[.int .i64 a1] 3 (0, 0))) (h : impl_taken_1.f a0 a1 = some r) :
    Calls Try.prog 97 #[.int .i64 a0, .pointer (some ⟨gb1, 0, none⟩)] w fun e w' => e = .returned (.bool r) ∧ Drawn0 w w' := by
  have HQ1 := Aside0.mk hq1
  clear hq1
  have HM := Aside0.mk (MS.start w)
  have HD := Aside0.mk (Drawn0.refl w)
  have H : ((impl_nailBit.f a0).bind fun t121 => (some ((Go.bits .and .i64 a1 t121) != 0))) = some r := h
  clear h
  replace H := Option.bind_eq_some_iff.mp H
  obtain ⟨t121, A1_0, H⟩ := H
  replace H : (some ((Go.bits .and .i64 a1 t121) != 0)) = some r := H
  have A1_ := Aside0.mk A1_0
  clear A1_0
  obtain rfl := Option.some.inj H
  go_enter Try.func97, Try.ntmps97
  go_wp2
  have hcz2_0 : w.cell? ⟨gb1, 0, none⟩ = some (.int .i64 a1) := (blk_cell (blk_below HQ1.out HM.out.below) 0).trans rfl
  have hfz2_0 := blk_frozen (blk_below HQ1.out HM.out.below) 0
  go_quiet ((go_at_call 98; refine calls_quiet (v := .int .i64 t121) ?_; exact (impl_nailBit.calls a0 t121 _  A1_.out)))
  generalize hw : World.drewN _ _ = w4_
  have n_ := Aside0.mk (HM.out.step (show Below _ _ w4_ from hw ▸ pw_below_drewN (Below.refl _ _) _))
  have nd_ := Aside0.mk (HD.out.trans (show Drawn0 _ w4_ from ⟨⟨_, hw.symm⟩⟩))
  clear HD
  have HD := nd_
  clear nd_
  clear HM hw
  have HM := n_
  clear n_
  go_wp2
  go_ret
  exact ⟨by first | rfl | (simp; done) | (simp only [i64_w]; done) | (simp [i64_w]; done) | (simp [*]; done), HD.out⟩

/-! ### impl_taken: function 89 -/
def impl_taken.f (k : Nat) (l0 : List Int) (a1 : Int) : Option (List Int) := (slices_Clone_int_int.f l0).bind fun t122 => ((slices_DeleteFunc_int_int.f t122 (fun x_ => impl_taken_1.f x_ a1)).bind fun t124 => ((impl_reduced.f k t124).bind fun t125 => (some t125)))
set_option maxHeartbeats 8000000 in
set_option maxRecDepth 100000 in
theorem impl_taken.calls (k : Nat) (A0 : Option Addr) (c0 : Nat) (l0 : List Int) (a1 : Int) (r : List Int) (w : World) (hr0 : Kd.C (Kd.int .i64) w A0 l0.length l0) (hc0 : l0.length ≤ c0) (h : impl_taken.f k l0 a1 = some r) :
    Calls Try.prog 89 #[.slice A0 l0.length c0, .int .i64 a1] w fun e w' => ∃ v0_ : Value, e = .returned (v0_) ∧ Kd.R (Kd.int .i64) 3 w' w.heap.size (fun _ => True) v0_ r ∧ Below w.heap.size w w' := by
  have HR0 := Aside0.mk hr0
  have HC0 := Aside0.mk hc0
  clear hr0 hc0
  have HM := Aside0.mk (MS.start w)
  have H : ((slices_Clone_int_int.f l0).bind fun t122 => ((slices_DeleteFunc_int_int.f t122 (fun x_ => impl_taken_1.f x_ a1)).bind fun t124 => ((impl_reduced.f k t124).bind fun t125 => (some t125)))) = some r := h
  clear h
  replace H := Option.bind_eq_some_iff.mp H
  obtain ⟨t122, A1_0, H⟩ := H
  replace H : ((slices_DeleteFunc_int_int.f t122 (fun x_ => impl_taken_1.f x_ a1)).bind fun t124 => ((impl_reduced.f k t124).bind fun t125 => (some t125))) = some r := H
  have A1_ := Aside0.mk A1_0
  clear A1_0
  replace H := Option.bind_eq_some_iff.mp H
  obtain ⟨t124, A2_0, H⟩ := H
  replace H : ((impl_reduced.f k t124).bind fun t125 => (some t125)) = some r := H
  have A2_ := Aside0.mk A2_0
  clear A2_0
  replace H := Option.bind_eq_some_iff.mp H
  obtain ⟨t125, A3_0, H⟩ := H
  replace H : (some t125) = some r := H
  have A3_ := Aside0.mk A3_0
  clear A3_0
  obtain rfl := Option.some.inj H
  go_enter Try.func89, Try.ntmps89
  go_wp2_with (first | ((with_reducible refine gate_dst (N := 3) rfl ?_); refine box_event ?hg (N := 3) ?hd (cs := #[.int .i64 a1]) (t := 3) ?hr ?_; (case hd => rfl); (case hg => rfl); (case hr => first | (go_simp; done) | (go_simp; rfl)); intro gb1 hg w4_ hbox hb; have n_ := Aside0.mk (HM.out.addBox hb hbox hg); clear HM; have HM := n_; clear n_; clear hb hbox hg) | ((with_reducible refine gate_callee (f := 39) rfl ?_); (with_reducible refine gate_dst (N := 6) rfl ?_); refine goesL_ (some 6) rfl rfl Try.func39 (by kernel_rfl) rfl #[.slice A0 l0.length c0] rfl (by (try simp only [List.map_toArray, List.map_cons, List.map_nil]); first | done | rfl | (simp only [List.length_drop, List.length_take]; rfl)) ?_; (with_reducible refine (slices_Clone_int_int.calls _ _ l0 t122 _ ?sd0 ?sd1 A1_.out).mono ?_); (case sd0 => exact (Kd.C_below HR0.out HM.out.below)); (case sd1 => exact HC0.out); rintro e_ w5_ ⟨vv0_, rfl, ho0_, hb⟩; refine ⟨_, rfl, ?_⟩; obtain ⟨Ao2_0, co2_0, ev_⟩ := Kd.R_slice ho0_; subst ev_; have n_ := Aside0.mk (HM.out.addR hb ho0_); clear HM; have HM := n_; clear n_; clear hb ho0_; have fv123 := Aside0.mk (show FnB Try.prog w5_ (.func (.func 97) #[] #[.pointer (some ⟨gb1, 0, none⟩)]) (fun x_ => impl_taken_1.f x_ a1) from FnB.mk Try.func97 rfl rfl (fun W_ hW_ x_ r_ hr_ => (show Calls Try.prog 97 #[.int .i64 x_, .pointer (some ⟨gb1, 0, none⟩)] W_ _ from drawn_calls (impl_taken_1.calls x_ _ a1 r_ W_ (blk_below (HM.out.box 1 rfl) hW_) hr_)))); have n_ : Aside0 (MS w w5_ [.row 3 (.slice Ao2_0 t122.length co2_0) (encs (Value.int .i64) t122), .box gb1 3 #[.int .i64 a1]]) := ⟨HM.out.front 0 rfl⟩; clear HM; have HM := n_; clear n_; have fm7_ := Aside0.mk (show FnM Try.prog w [.box gb1 3 #[.int .i64 a1]] (.func (.func 97) #[] #[.pointer (some ⟨gb1, 0, none⟩)]) (fun x_ => impl_taken_1.f x_ a1) from FnM.mk Try.func97 rfl rfl (fun W_ hM_ x_ r_ hr_ => (show Calls Try.prog 97 #[.int .i64 x_, .pointer (some ⟨gb1, 0, none⟩)] W_ _ from drawn_calls (impl_taken_1.calls x_ _ a1 r_ W_ (hM_.box 0 rfl) hr_))))) | ((with_reducible refine gate_callee (f := 93) rfl ?_); (with_reducible refine gate_dst (N := 8) rfl ?_); refine goesL_ (some 8) rfl rfl Try.func93 (by kernel_rfl) rfl #[.slice Ao2_0 t122.length co2_0, .func (.func 97) #[] #[.pointer (some ⟨gb1, 0, none⟩)]] rfl (by (try simp only [List.map_toArray, List.map_cons, List.map_nil]); first | done | rfl | (simp only [List.length_drop, List.length_take]; rfl)) ?_; (with_reducible refine (slices_DeleteFunc_int_int.calls _ _ _ _ t122 _ (fun x_ => impl_taken_1.f x_ a1) t124 _ HM.out fm7_.out A2_.out).mono ?_); rintro e_ w6_ ⟨Ao2_t124, co2_t124, rfl, hm_⟩; refine ⟨_, rfl, ?_⟩; have n_ := Aside0.mk hm_; clear HM hm_; have HM := n_; clear n_) | ((with_reducible refine gate_callee (f := 36) rfl ?_); (with_reducible refine gate_dst (N := 9) rfl ?_); refine goesL_ (some 9) rfl rfl Try.func36 (by kernel_rfl) rfl #[.slice Ao2_t124 t124.length co2_t124] rfl (by (try simp only [List.map_toArray, List.map_cons, List.map_nil]); first | done | rfl | (simp only [List.length_drop, List.length_take]; rfl)) ?_; (with_reducible refine (impl_reduced.calls k _ _ t124 t125 _ ?sd0 ?sd1 A3_.out).mono ?_); (case sd0 => exact (Kd.R_reads' (HM.out.R (h1 := fun _ => rfl) 0 rfl)).2.2); (case sd1 => exact (Kd.R_reads' (HM.out.R (h1 := fun _ => rfl) 0 rfl)).2.1); rintro e_ w8_ ⟨vv0_, rfl, ho0_, hb⟩; refine ⟨_, rfl, ?_⟩; obtain ⟨Ao3_0, co3_0, ev_⟩ := Kd.R_slice ho0_; subst ev_; have n_ := Aside0.mk (HM.out.addR hb ho0_); clear HM; have HM := n_; clear n_; clear hb ho0_))
  go_ret
  exact ⟨_, by first | rfl | (simp; done) | (simp only [i64_w]; done) | (simp [i64_w]; done) | (simp [*]; done), HM.out.R 0 rfl, HM.out.below⟩

/-! ### impl_falls: function 66 -/
def impl_falls.f (k : Nat) (l0 : List Int) (a1 : Int) : Option (Bool) := (impl_taken.f k l0 a1).bind fun t126 => (some ((t126.length : Int) == 0))
set_option maxHeartbeats 8000000 in
set_option maxRecDepth 100000 in
theorem impl_falls.calls (k : Nat) (A0 : Option Addr) (c0 : Nat) (l0 : List Int) (a1 : Int) (r : Bool) (w : World) (hr0 : Kd.C (Kd.int .i64) w A0 l0.length l0) (hc0 : l0.length ≤ c0) (h : impl_falls.f k l0 a1 = some r) :
    Calls Try.prog 66 #[.slice A0 l0.length c0, .int .i64 a1] w fun e w' => e = .returned (.bool r) ∧ Below w.heap.size w w' := by
  have HR0 := Aside0.mk hr0
  have HC0 := Aside0.mk hc0
  clear hr0 hc0
  have HM := Aside0.mk (MS.start w)
  have H : ((impl_taken.f k l0 a1).bind fun t126 => (some ((t126.length : Int) == 0))) = some r := h
  clear h
  replace H := Option.bind_eq_some_iff.mp H
  obtain ⟨t126, A1_0, H⟩ := H
  replace H : (some ((t126.length : Int) == 0)) = some r := H
  have A1_ := Aside0.mk A1_0
  clear A1_0
  obtain rfl := Option.some.inj H
  go_enter Try.func66, Try.ntmps66
  go_wp2_with (first | ((with_reducible refine gate_callee (f := 89) rfl ?_); (with_reducible refine gate_dst (N := 7) rfl ?_); refine goesL_ (some 7) rfl rfl Try.func89 (by kernel_rfl) rfl #[.slice A0 l0.length c0, .int .i64 a1] rfl (by (try simp only [List.map_toArray, List.map_cons, List.map_nil]); first | done | rfl | (simp only [List.length_drop, List.length_take]; rfl)) ?_; (with_reducible refine (impl_taken.calls k _ _ l0 a1 t126 _ ?sd0 ?sd1 A1_.out).mono ?_); (case sd0 => exact (Kd.C_below HR0.out HM.out.below)); (case sd1 => exact HC0.out); rintro e_ w2_ ⟨vv0_, rfl, ho0_, hb⟩; refine ⟨_, rfl, ?_⟩; obtain ⟨Ao1_0, co1_0, ev_⟩ := Kd.R_slice ho0_; subst ev_; have n_ := Aside0.mk (HM.out.addR hb ho0_); clear HM; have HM := n_; clear n_; clear hb ho0_))
  go_ret
  exact ⟨by first | rfl | (simp; done) | (simp only [i64_w]; done) | (simp [i64_w]; done) | (simp [*]; done), HM.out.below⟩

/-! ### impl_fallTable: function 37 -/
def impl_fallTable.l0 : Nat → (List Int) → (Int) → (List Bool) → Option (List Bool)
  | 0, _, _, _ => none
  | k + 1, x0, x6, m2 => if x6 < 64 then ((impl_falls.f k x0 x6).bind fun t127 => (if 0 ≤ x6 then (impl_fallTable.l0 k x0 (wrap64 (x6 + 1)) (m2.set (x6 : Int).toNat t127)) else (none))) else (some m2)
def impl_fallTable.f (k : Nat) (l0 : List Int) : Option (List Bool) := impl_fallTable.l0 k l0 0 (List.replicate 64 false)
set_option maxHeartbeats 8000000 in
set_option maxRecDepth 100000 in
theorem impl_fallTable.calls (k : Nat) (A0 : Option Addr) (c0 : Nat) (l0 : List Int) (r : List Bool) (w : World) (hr0 : Kd.C (Kd.int .i64) w A0 l0.length l0) (hc0 : l0.length ≤ c0) (h : impl_fallTable.f k l0 = some r) :
    Calls Try.prog 37 #[.slice A0 l0.length c0] w fun e w' => e = .returned (.agg (bcs r)) ∧ r.length = 64 ∧ Below w.heap.size w w' := by
  have HR0 := Aside0.mk hr0
  have HC0 := Aside0.mk hc0
  clear hr0 hc0
  have hu48 := Try.underlying48
  have HM := Aside0.mk (MS.start w)
  have H : (impl_fallTable.l0 k l0 0 (List.replicate 64 false)) = some r := h
  clear h
  have H' := Aside0.mk H
  clear H
  go_enter Try.func37, Try.ntmps37
  go_wp2_with (first | ((with_reducible refine gate_dst (N := 2) rfl ?_); refine box_event ?hg (N := 2) ?hd (cs := (bcs (List.replicate 64 false))) (t := 48) ?hr ?_; (case hd => rfl); (case hg => rfl); (case hr => first | (go_simp; done) | (go_simp; rfl)); intro gb1 hg w1_ hbox hb; have n_ := Aside0.mk (HM.out.addBox hb hbox hg); clear HM; have HM := n_; clear n_; clear hb hbox hg) | ((with_reducible refine gate_dst (N := 5) rfl ?_); refine build_zero ?hg (N := 5) ?hd (cs := (bcs (List.replicate 64 false))) ?hr ?_; (case hd => rfl); (case hg => rfl); (case hr => first | (go_simp; done) | (go_simp; rfl))) | ((with_reducible refine gate_dst (N := 3) rfl ?_); refine box_event ?hg (N := 3) ?hd (cs := (bcs (List.replicate 64 false))) (t := 48) ?hr ?_; (case hd => rfl); (case hg => rfl); (case hr => first | (go_simp; done) | (go_simp; rfl)); intro gb2 hg w2_ hbox hb; have n_ := Aside0.mk (HM.out.addBox hb hbox hg); clear HM; have HM := n_; clear n_; clear hb hbox hg) | ((with_reducible refine gate_store (t := 48) (p := 3) rfl ?_); refine wpList_store_row rfl _ _ _ rfl gb2 (bcs (List.replicate 64 false)) rfl rfl 48 (bcs (List.replicate 64 false)) (HM.out.box 0 rfl) (by rw [bcs_size, (List.length_replicate)]; kernel_rfl) ((bcs_size _).trans (((List.length_replicate)).trans ((show _ = 64 from (List.length_replicate)).symm.trans (bcs_size _).symm))) (bcs_one _) ?_; generalize hw : World.setRow _ _ _ = w3_; have n_ : Aside0 (MS w w3_ [.box gb2 48 (bcs (List.replicate 64 false)), .box gb1 48 (bcs (List.replicate 64 false))]) := ⟨by rw [← hw]; exact HM.out.setRow 0 rfl _⟩; clear HM hw; have HM := n_; clear n_))
  go_loopg [6] k (fun kq v6 w' => ∃ (x6_4 : Int) (m2_4 : List Bool), v6 = .int .i64 x6_4 ∧ Aside0 (impl_fallTable.l0 kq l0 x6_4 m2_4 = some r) ∧ Aside0 (kq ≤ k) ∧ Aside0 (m2_4.length = 64) ∧ Aside0 (MS w w' [.box gb2 48 (bcs m2_4), .box gb1 48 (bcs (List.replicate 64 false))]))
  case atStart => exact ⟨(0), ((List.replicate 64 false)), (by first | rfl | (simp; done) | (simp only [i64_w]; done) | (simp [i64_w]; done) | (simp [*]; done)), H', ⟨Nat.le_refl _⟩, ⟨(List.length_replicate)⟩, HM⟩
  case round =>
    clear H'
    clear HM
    obtain ⟨x6_4, m2_4, rfl, HA, HK5_, HLm2_4, HM⟩ := hrel
    cases gk with
    | zero => exact absurd HA.out (by simp [impl_fallTable.l0])
    | succ k6_ =>
      have H := HA.out
      clear HA
      simp only [impl_fallTable.l0] at H
      by_cases c7_ : x6_4 < 64
      · rw [if_pos c7_] at H
        have c7_b0 : decide (x6_4 < 64) = true := decide_eq_true c7_
        clear c7_
        replace H := Option.bind_eq_some_iff.mp H
        obtain ⟨t127, A8_0, H⟩ := H
        replace H : (if 0 ≤ x6_4 then (impl_fallTable.l0 k6_ l0 (wrap64 (x6_4 + 1)) (m2_4.set (x6_4 : Int).toNat t127)) else (none)) = some r := H
        have A8_ := Aside0.mk A8_0
        clear A8_0
        by_cases c9_ : 0 ≤ x6_4
        · rw [if_pos c9_] at H
          have c9_b0 : decide (0 ≤ x6_4) = true := decide_eq_true c9_
          clear c9_
          obtain ⟨y128, hy128⟩ : ∃ y_, y_ = (m2_4.set (x6_4 : Int).toNat t127) := ⟨_, rfl⟩
          replace H : (impl_fallTable.l0 k6_ l0 (wrap64 (x6_4 + 1)) y128) = some r := by first | (rw [hy128]; with_reducible exact H) | (have H2_ := (Option.bind_some _ _).symm.trans H; rw [hy128]; with_reducible exact H2_) | (have H2_ := (Option.bind_some _ _).symm.trans H; with_reducible exact H2_) | with_reducible exact H | (rw [hy128]; exact H) | exact H
          have Ny128 := Aside0.mk hy128
          clear hy128
          have H' := Aside0.mk H
          clear H
          go_wp2_with (first | ((with_reducible refine gate_callee (f := 66) rfl ?_); (with_reducible refine gate_dst (N := 12) rfl ?_); refine goesL_ (some 12) rfl rfl Try.func66 (by kernel_rfl) rfl #[.slice A0 l0.length c0, .int .i64 x6_4] rfl (by (try simp only [List.map_toArray, List.map_cons, List.map_nil]); first | done | rfl | (simp only [List.length_drop, List.length_take]; rfl)) ?_; (with_reducible refine (impl_falls.calls k6_ _ _ l0 x6_4 t127 _ ?sd0 ?sd1 A8_.out).mono ?_); (case sd0 => exact (Kd.C_below HR0.out HM.out.below)); (case sd1 => exact HC0.out); rintro e_ w10_ ⟨rfl, hb⟩; refine ⟨_, rfl, ?_⟩; have n_ := Aside0.mk (HM.out.step hb); clear HM; have HM := n_; clear n_; clear hb; have p129 : 0 ≤ (x6_4 : Int) := of_decide_eq_true (by first | (with_reducible assumption) | assumption); have q129 : (x6_4 : Int) < 64 := of_decide_eq_true (by first | (with_reducible assumption) | assumption); have hx129 := bcell (HM.out.box 0 rfl) x6_4 p129 (by have := HLm2_4.out; omega); have hf129 := blk_frozen (HM.out.box 0 rfl) (x6_4 : Int).toNat; replace p129 := eq_true p129; replace q129 := eq_true q129) | ((with_reducible refine gate_store (t := 4) (p := 13) rfl ?_); refine store_event (t := 4) (p := 13) (v := ?vow11_) (w1 := (w10_.setCell ⟨gb2, (x6_4 : Int).toNat, none⟩ (.bool t127))) ?hg ?ho ?hn ?hr ?_; (case ho => rfl); (case hg => rfl); (case hn => rfl); (case hr => first | (go_simp; done) | (go_simp; rfl)); intro w11_ hw; have n_ : Aside0 (MS w w11_ [.box gb2 48 (bcs y128), .box gb1 48 (bcs (List.replicate 64 false))]) := ⟨by rw [hw]; exact HM.out.setBox 0 rfl _ _ (by rw [bcs_set, ← Ny128.out])⟩; clear HM hw; have HM := n_; clear n_))
          go_roundg k6_
          case measure => have hHK5__ := HK5_.out; omega
          case rel => exact ⟨(wrap64 (x6_4 + 1)), (y128), (by first | rfl | (simp; done) | (simp only [i64_w]; done) | (simp [i64_w]; done) | (simp [*]; done)), H', ⟨by have hHK5__ := HK5_.out; omega⟩, ⟨(show y128.length = 64 from by rw [Ny128.out, List.length_set]; exact HLm2_4.out)⟩, HM⟩
        · rw [if_neg c9_] at H
          have c9_b0 : decide (0 ≤ x6_4) = false := decide_eq_false c9_
          clear c9_
          exact absurd H (by simp)
      · rw [if_neg c7_] at H
        have c7_b0 : decide (x6_4 < 64) = false := decide_eq_false c7_
        clear c7_
        obtain rfl := Option.some.inj H
        go_wp2_with (first | ((with_reducible refine gate_dst (N := 15) rfl ?_); refine wpList_load_row rfl _ _ rfl gb2 rfl 48 (bcs m2_4) (0, 0) _ (HM.out.box 0 rfl) Try.underlying48 rfl (by rw [bcs_size, HLm2_4.out]; kernel_rfl) ?_) | ((with_reducible refine gate_store (t := 48) (p := 2) rfl ?_); refine wpList_store_row rfl _ _ _ rfl gb1 (bcs m2_4) rfl rfl 48 (bcs (List.replicate 64 false)) (HM.out.box 1 rfl) (by rw [bcs_size, HLm2_4.out]; kernel_rfl) ((bcs_size _).trans (((List.length_replicate)).trans ((show _ = 64 from HLm2_4.out).symm.trans (bcs_size _).symm))) (bcs_one _) ?_; generalize hw : World.setRow _ _ _ = w12_; have n_ : Aside0 (MS w w12_ [.box gb2 48 (bcs m2_4), .box gb1 48 (bcs m2_4)]) := ⟨by rw [← hw]; exact HM.out.setRow 1 rfl _⟩; clear HM hw; have HM := n_; clear n_))
        refine bodyPost_ret (results_cell_row rfl _ _ gb1 48 (bcs m2_4) (0, 0) _ rfl (HM.out.box 1 rfl) Try.underlying48 rfl (by rw [bcs_size, HLm2_4.out]; kernel_rfl)) rfl ?_
        exact ⟨by first | rfl | (simp; done) | (simp only [i64_w]; done) | (simp [i64_w]; done) | (simp [*]; done), HLm2_4.out, HM.out.below⟩

/-! ### impl_leastOf: function 68 -/
mutual
def impl_leastOf.l0 : Nat → (List Bool) → (Int) → (List Int) → (List Bool) → Option (List Int)
  | 0, _, _, _, _ => none
  | k + 1, x9, x10, m2, m1 => if x10 < 64 then (if 0 ≤ x10 then (impl_leastOf.l1 k x10 (rdOf false x9 x10) x9 x10 x10 0 m2 m1) else (none)) else (some m2)
def impl_leastOf.l1 : Nat → (Int) → (Bool) → (List Bool) → (Int) → (Int) → (Int) → (List Int) → (List Bool) → Option (List Int)
  | 0, _, _, _, _, _, _, _, _ => none
  | k + 1, x4, x6, x9, x10, x15, x16, m2, m1 => if x16 < x15 then (if x6 = true then (if (Go.bits .and .i64 x16 x4) = x16 then (if 0 ≤ x16 then (if x16 < 64 then (impl_leastOf.l1 k x4 (!(rdOf false m1 x16)) x9 x10 x15 (wrap64 (x16 + 1)) m2 m1) else (none)) else (none)) else (impl_leastOf.l1 k x4 (!false) x9 x10 x15 (wrap64 (x16 + 1)) m2 m1)) else (impl_leastOf.l1 k x4 false x9 x10 x15 (wrap64 (x16 + 1)) m2 m1)) else (if x6 = true then (if m2.length < 17592186044416 then (impl_leastOf.l0 k x9 (wrap64 (x10 + 1)) (m2 ++ [x4]) m1) else (none)) else (impl_leastOf.l0 k x9 (wrap64 (x10 + 1)) m2 m1))
end
def impl_leastOf.f (k : Nat) (l0 : List Bool) : Option (List Int) := impl_leastOf.l0 k l0 0 (([] : List Int)) l0
set_option maxHeartbeats 8000000 in
set_option maxRecDepth 100000 in
theorem impl_leastOf.calls (k : Nat) (l0 : List Bool) (r : List Int) (w : World) (hl0 : l0.length = 64) (h : impl_leastOf.f k l0 = some r) :
    Calls Try.prog 68 #[.agg (bcs l0)] w fun e w' => ∃ v0_ : Value, e = .returned (v0_) ∧ Kd.R (Kd.int .i64) 3 w' w.heap.size (fun _ => True) v0_ r ∧ Below w.heap.size w w' := by
  have HL0 := Aside0.mk hl0
  clear hl0
  have hu48 := Try.underlying48
  have HM := Aside0.mk (MS.start w)
  have H : (impl_leastOf.l0 k l0 0 (([] : List Int)) l0) = some r := h
  clear h
  obtain ⟨y130, hy130⟩ : ∃ y_, y_ = (([] : List Int)) := ⟨_, rfl⟩
  replace H : (impl_leastOf.l0 k l0 0 y130 l0) = some r := by first | (rw [hy130]; with_reducible exact H) | (have H2_ := (Option.bind_some _ _).symm.trans H; rw [hy130]; with_reducible exact H2_) | (have H2_ := (Option.bind_some _ _).symm.trans H; with_reducible exact H2_) | with_reducible exact H | (rw [hy130]; exact H) | exact H
  have Ny130 := Aside0.mk hy130
  clear hy130
  have H' := Aside0.mk H
  clear H
  go_enter Try.func68, Try.ntmps68
  go_wp2_with (first | ((with_reducible refine gate_dst (N := 1) rfl ?_); refine box_event ?hg (N := 1) ?hd (cs := (bcs l0)) (t := 48) ?hr ?_; (case hd => rfl); (case hg => rfl); (case hr => first | (go_simp; done) | (go_simp; rfl)); intro gb1 hg w1_ hbox hb; have n_ := Aside0.mk (HM.out.addBox hb hbox hg); clear HM; have HM := n_; clear n_; clear hb hbox hg) | ((with_reducible refine gate_dst (N := 8) rfl ?_); refine Kd.R_lit (Kd.int .i64) _ 3 ?hg (N := 8) ?hd (xs := ([] : List Int)) (inner := []) (ok := fun _ => True) (okp := fun _ => True) ?hr ?hp (fun _ hk => hk) trivial (Below.refl _ _) (Nat.le_refl _) (by simp) ?_; (case hd => rfl); (case hg => rfl); (case hr => first | (go_simp; done) | (go_simp; rfl)); (case hp => exact (Reps.none _ _)); intro vv_ w2_ ho hb hg_ hnew_; clear hg_ hnew_; rw [← Ny130.out] at ho; obtain ⟨Ao2_0, co2_0, ev_⟩ := Kd.R_slice ho; subst ev_; have n_ := Aside0.mk (HM.out.addR hb ho); clear HM; have HM := n_; clear n_; clear hb ho) | ((with_reducible refine gate_dst (N := 9) rfl ?_); refine wpList_load_row rfl _ _ rfl gb1 rfl 48 (bcs l0) (0, 0) _ (HM.out.box 1 rfl) Try.underlying48 rfl (by rw [bcs_size, HL0.out]; kernel_rfl) ?_))
  go_loopg [3, 10] k (fun kq v3 v10 w' => ∃ (x10_3 : Int) (Am2_3 : Option Addr) (cm2_3 : Nat) (m2_3 : List Int), v10 = .int .i64 x10_3 ∧ v3 = .slice Am2_3 m2_3.length cm2_3 ∧ Aside0 (impl_leastOf.l0 kq l0 x10_3 m2_3 l0 = some r) ∧ Aside0 (kq ≤ k) ∧ Aside0 (MS w w' [.row 3 (.slice Am2_3 m2_3.length cm2_3) (encs (Value.int .i64) m2_3), .box gb1 48 (bcs l0)]))
  case atStart => exact ⟨(0), (Ao2_0), (co2_0), (y130), (by first | rfl | (simp; done) | (simp only [i64_w]; done) | (simp [i64_w]; done) | (simp [*]; done)), (by first | rfl | (simp; done) | (simp only [i64_w]; done) | (simp [i64_w]; done) | (simp [*]; done)), H', ⟨Nat.le_refl _⟩, HM⟩
  case round =>
    clear H'
    clear HM
    obtain ⟨x10_3, Am2_3, cm2_3, m2_3, rfl, rfl, HA, HK4_, HM⟩ := hrel
    cases gk with
    | zero => exact absurd HA.out (by simp [impl_leastOf.l0])
    | succ k5_ =>
      have H := HA.out
      clear HA
      simp only [impl_leastOf.l0] at H
      by_cases c6_ : x10_3 < 64
      · rw [if_pos c6_] at H
        have c6_b0 : decide (x10_3 < 64) = true := decide_eq_true c6_
        clear c6_
        by_cases c7_ : 0 ≤ x10_3
        · rw [if_pos c7_] at H
          have c7_b0 : decide (0 ≤ x10_3) = true := decide_eq_true c7_
          clear c7_
          have H' := Aside0.mk H
          clear H
          have p131 : 0 ≤ (x10_3 : Int) := of_decide_eq_true (by first | (with_reducible assumption) | assumption)
          have q131 : (x10_3 : Int) < 64 := of_decide_eq_true (by first | (with_reducible assumption) | assumption)
          have hp131 := Aside0.mk p131
          have hq131 := Aside0.mk q131
          clear p131 q131
          go_wp2_with (first | ((with_reducible refine gate_dst (N := 13) rfl ?_); refine idxB (t := 48) (e := 4) rfl rfl rfl rfl Try.underlying48 (by kernel_rfl) (by kernel_rfl) HL0.out hp131.out hq131.out ?_))
          obtain ⟨wo8_, rfl⟩ : ∃ wo_ : World, wo_ = wr := ⟨_, rfl⟩
          go_loopg [6, 16] k5_ (fun kq v6 v16 w' => ∃ (x6_9 : Bool) (x16_9 : Int), v6 = .bool x6_9 ∧ v16 = .int .i64 x16_9 ∧ Aside0 (impl_leastOf.l1 kq x10_3 x6_9 l0 x10_3 x10_3 x16_9 m2_3 l0 = some r) ∧ Aside0 (kq ≤ k5_) ∧ Aside0 (MS w w' [.row 3 (.slice Am2_3 m2_3.length cm2_3) (encs (Value.int .i64) m2_3), .box gb1 48 (bcs l0)]))
          case atStart => exact ⟨((rdOf false l0 x10_3)), (0), (by first | rfl | (simp; done) | (simp only [i64_w]; done) | (simp [i64_w]; done) | (simp [*]; done)), (by first | rfl | (simp; done) | (simp only [i64_w]; done) | (simp [i64_w]; done) | (simp [*]; done)), H', ⟨Nat.le_refl _⟩, HM⟩
          case round =>
            clear H'
            clear HM
            obtain ⟨x6_9, x16_9, rfl, rfl, HA, HK10_, HM⟩ := hrel
            cases gk with
            | zero => exact absurd HA.out (by simp [impl_leastOf.l1])
            | succ k11_ =>
              have H := HA.out
              clear HA
              simp only [impl_leastOf.l1] at H
              by_cases c12_ : x16_9 < x10_3
              · rw [if_pos c12_] at H
                have c12_b0 : decide (x16_9 < x10_3) = true := decide_eq_true c12_
                clear c12_
                by_cases c13_ : x6_9 = true
                · subst c13_
                  have H1 : (if (Go.bits .and .i64 x16_9 x10_3) = x16_9 then (if 0 ≤ x16_9 then (if x16_9 < 64 then (impl_leastOf.l1 k11_ x10_3 (!(rdOf false l0 x16_9)) l0 x10_3 x10_3 (wrap64 (x16_9 + 1)) m2_3 l0) else (none)) else (none)) else (impl_leastOf.l1 k11_ x10_3 (!false) l0 x10_3 x10_3 (wrap64 (x16_9 + 1)) m2_3 l0)) = some r := by rw [if_pos rfl] at H; exact H
                  clear H
                  have H := H1
                  clear H1
                  by_cases c14_ : (Go.bits .and .i64 x16_9 x10_3) = x16_9
                  · rw [if_pos c14_] at H
                    have c14_b0 : ((Go.bits .and .i64 x16_9 x10_3) == x16_9) = true := beq_iff_eq.mpr c14_
                    have c14_b1 : ((Go.bits .and .i64 x16_9 x10_3) != x16_9) = false := bne_eq_false_iff_eq.mpr c14_
                    clear c14_
                    by_cases c15_ : 0 ≤ x16_9
                    · rw [if_pos c15_] at H
                      have c15_b0 : decide (0 ≤ x16_9) = true := decide_eq_true c15_
                      clear c15_
                      by_cases c16_ : x16_9 < 64
                      · rw [if_pos c16_] at H
                        have c16_b0 : decide (x16_9 < 64) = true := decide_eq_true c16_
                        clear c16_
                        have H' := Aside0.mk H
                        clear H
                        have p132 : 0 ≤ (x16_9 : Int) := of_decide_eq_true (by first | (with_reducible assumption) | assumption)
                        have q132 : (x16_9 : Int) < 64 := of_decide_eq_true (by first | (with_reducible assumption) | assumption)
                        have hx132 := bcell (HM.out.box 1 rfl) x16_9 p132 (by have := HL0.out; omega)
                        replace p132 := eq_true p132
                        replace q132 := eq_true q132
                        go_wp2
                        go_roundg k11_
                        case measure => have hHK4__ := HK4_.out; have hHK10__ := HK10_.out; omega
                        case rel => exact ⟨(!(rdOf false l0 x16_9)), (wrap64 (x16_9 + 1)), (by first | rfl | (simp; done) | (simp only [i64_w]; done) | (simp [i64_w]; done) | (simp [*]; done)), (by first | rfl | (simp; done) | (simp only [i64_w]; done) | (simp [i64_w]; done) | (simp [*]; done)), H', ⟨by have hHK4__ := HK4_.out; have hHK10__ := HK10_.out; omega⟩, HM⟩
                      · rw [if_neg c16_] at H
                        have c16_b0 : decide (x16_9 < 64) = false := decide_eq_false c16_
                        clear c16_
                        exact absurd H (by simp)
                    · rw [if_neg c15_] at H
                      have c15_b0 : decide (0 ≤ x16_9) = false := decide_eq_false c15_
                      clear c15_
                      exact absurd H (by simp)
                  · rw [if_neg c14_] at H
                    have c14_b0 : ((Go.bits .and .i64 x16_9 x10_3) == x16_9) = false := beq_eq_false_iff_ne.mpr c14_
                    have c14_b1 : ((Go.bits .and .i64 x16_9 x10_3) != x16_9) = true := bne_iff_ne.mpr c14_
                    clear c14_
                    have H' := Aside0.mk H
                    clear H
                    go_wp2
                    go_roundg k11_
                    case measure => have hHK4__ := HK4_.out; have hHK10__ := HK10_.out; omega
                    case rel => exact ⟨(!false), (wrap64 (x16_9 + 1)), (by first | rfl | (simp; done) | (simp only [i64_w]; done) | (simp [i64_w]; done) | (simp [*]; done)), (by first | rfl | (simp; done) | (simp only [i64_w]; done) | (simp [i64_w]; done) | (simp [*]; done)), H', ⟨by have hHK4__ := HK4_.out; have hHK10__ := HK10_.out; omega⟩, HM⟩
                · replace c13_ := Bool.eq_false_iff.mpr c13_
                  subst c13_
                  have H1 : (impl_leastOf.l1 k11_ x10_3 false l0 x10_3 x10_3 (wrap64 (x16_9 + 1)) m2_3 l0) = some r := by rw [if_neg (show ¬ (false = true) by decide)] at H; exact H
                  clear H
                  have H := H1
                  clear H1
                  have H' := Aside0.mk H
                  clear H
                  go_wp2
                  go_roundg k11_
                  case measure => have hHK4__ := HK4_.out; have hHK10__ := HK10_.out; omega
                  case rel => exact ⟨(false), (wrap64 (x16_9 + 1)), (by first | rfl | (simp; done) | (simp only [i64_w]; done) | (simp [i64_w]; done) | (simp [*]; done)), (by first | rfl | (simp; done) | (simp only [i64_w]; done) | (simp [i64_w]; done) | (simp [*]; done)), H', ⟨by have hHK4__ := HK4_.out; have hHK10__ := HK10_.out; omega⟩, HM⟩
              · rw [if_neg c12_] at H
                have c12_b0 : decide (x16_9 < x10_3) = false := decide_eq_false c12_
                clear c12_
                by_cases c17_ : x6_9 = true
                · subst c17_
                  have H1 : (if m2_3.length < 17592186044416 then (impl_leastOf.l0 k11_ l0 (wrap64 (x10_3 + 1)) (m2_3 ++ [x10_3]) l0) else (none)) = some r := by rw [if_pos rfl] at H; exact H
                  clear H
                  have H := H1
                  clear H1
                  by_cases c18_ : m2_3.length < 17592186044416
                  · rw [if_pos c18_] at H
                    have LMc18_ := Aside0.mk c18_
                    clear c18_
                    obtain ⟨y133, hy133⟩ : ∃ y_, y_ = (m2_3 ++ [x10_3]) := ⟨_, rfl⟩
                    replace H : (impl_leastOf.l0 k11_ l0 (wrap64 (x10_3 + 1)) y133 l0) = some r := by first | (rw [hy133]; with_reducible exact H) | (have H2_ := (Option.bind_some _ _).symm.trans H; rw [hy133]; with_reducible exact H2_) | (have H2_ := (Option.bind_some _ _).symm.trans H; with_reducible exact H2_) | with_reducible exact H | (rw [hy133]; exact H) | exact H
                    have Ny133 := Aside0.mk hy133
                    clear hy133
                    have H' := Aside0.mk H
                    clear H
                    go_wp2_with (first | ((with_reducible refine gate_builtin (b := .append) (xs := #[.tmp 35, .tmp 37]) rfl ?_); at_builtin; refine Kd.R_append (Kd.int .i64) (w0 := w) w.heap.size rfl (.tmp 35) (.tmp 37) 22 3 (.int .i64 0) 8 rfl Try.underlying22 info3 rfl (by decide) (by omega) (.slice Am2_3 m2_3.length cm2_3) m2_3 x10_3 [.int .i64 x10_3] (fun _ => True) (fun _ => False) rfl rfl ?aP (fun _ hk => hk.elim) ?aF ?aO ?aB ?aS ?aL ?_; (case aP => exact rfl); (case aB => exact HM.out.below); (case aF => exact (fun _ _ => trivial)); (case aO => exact (HM.out.R 0 rfl)); (case aS => exact HM.out.size); (case aL => have := LMc18_.out; omega); intro vv_ w19_ ho hb hg hat; rw [← Ny133.out] at ho; have n_ := Aside0.mk (HM.out.grow 0 rfl ho hb hg hat); clear HM; have HM := n_; clear n_; obtain ⟨Ao2_y133, co2_y133, ev_⟩ := Kd.R_slice ho; subst ev_; clear ho hb hg hat; have n_ : Aside0 (MS w w19_ [.row 3 (.slice Ao2_y133 y133.length co2_y133) (encs (Value.int .i64) y133), .box gb1 48 (bcs l0)]) := ⟨HM.out⟩; clear HM; have HM := n_; clear n_))
                    go_roundg k11_
                    case measure => have hHK4__ := HK4_.out; have hHK10__ := HK10_.out; omega
                    case rel => exact ⟨(wrap64 (x10_3 + 1)), (Ao2_y133), (co2_y133), (y133), (by first | rfl | (simp; done) | (simp only [i64_w]; done) | (simp [i64_w]; done) | (simp [*]; done)), (by first | rfl | (simp; done) | (simp only [i64_w]; done) | (simp [i64_w]; done) | (simp [*]; done)), H', ⟨by have hHK4__ := HK4_.out; have hHK10__ := HK10_.out; omega⟩, HM⟩
                  · rw [if_neg c18_] at H
                    clear c18_
                    exact absurd H (by simp)
                · replace c17_ := Bool.eq_false_iff.mpr c17_
                  subst c17_
                  have H1 : (impl_leastOf.l0 k11_ l0 (wrap64 (x10_3 + 1)) m2_3 l0) = some r := by rw [if_neg (show ¬ (false = true) by decide)] at H; exact H
                  clear H
                  have H := H1
                  clear H1
                  have H' := Aside0.mk H
                  clear H
                  go_wp2
                  go_roundg k11_
                  case measure => have hHK4__ := HK4_.out; have hHK10__ := HK10_.out; omega
                  case rel => exact ⟨(wrap64 (x10_3 + 1)), (Am2_3), (cm2_3), (m2_3), (by first | rfl | (simp; done) | (simp only [i64_w]; done) | (simp [i64_w]; done) | (simp [*]; done)), (by first | rfl | (simp; done) | (simp only [i64_w]; done) | (simp [i64_w]; done) | (simp [*]; done)), H', ⟨by have hHK4__ := HK4_.out; have hHK10__ := HK10_.out; omega⟩, HM⟩
        · rw [if_neg c7_] at H
          have c7_b0 : decide (0 ≤ x10_3) = false := decide_eq_false c7_
          clear c7_
          exact absurd H (by simp)
      · rw [if_neg c6_] at H
        have c6_b0 : decide (x10_3 < 64) = false := decide_eq_false c6_
        clear c6_
        obtain rfl := Option.some.inj H
        go_wp2
        go_ret
        exact ⟨_, by first | rfl | (simp; done) | (simp only [i64_w]; done) | (simp [i64_w]; done) | (simp [*]; done), HM.out.R 0 rfl, HM.out.below⟩

/-! ### impl_LeastFalls: function 41 -/
def impl_LeastFalls.f (k : Nat) (l0 : List Int) : Option (List Int × Bool) := (impl_isWord.f k l0).bind fun t134 => (if t134 = true then ((impl_fallTable.f k l0).bind fun t135 => ((impl_leastOf.f k t135).bind fun t136 => (some (t136, true)))) else (some ([], false)))
set_option maxHeartbeats 8000000 in
set_option maxRecDepth 100000 in
theorem impl_LeastFalls.calls (k : Nat) (A0 : Option Addr) (c0 : Nat) (l0 : List Int) (r1 : List Int) (r2 : Bool) (w : World) (hr0 : Kd.C (Kd.int .i64) w A0 l0.length l0) (hc0 : l0.length ≤ c0) (h : impl_LeastFalls.f k l0 = some (r1, r2)) :
    Calls Try.prog 41 #[.slice A0 l0.length c0] w fun e w' => ∃ v0_ : Value, e = .returned (.tuple #[v0_, .bool r2]) ∧ Kd.R (Kd.int .i64) 3 w' w.heap.size (fun _ => True) v0_ r1 ∧ Below w.heap.size w w' := by
  have HR0 := Aside0.mk hr0
  have HC0 := Aside0.mk hc0
  clear hr0 hc0
  have HM := Aside0.mk (MS.start w)
  have H : ((impl_isWord.f k l0).bind fun t134 => (if t134 = true then ((impl_fallTable.f k l0).bind fun t135 => ((impl_leastOf.f k t135).bind fun t136 => (some (t136, true)))) else (some ([], false)))) = some (r1, r2) := h
  clear h
  replace H := Option.bind_eq_some_iff.mp H
  obtain ⟨t134, A1_0, H⟩ := H
  replace H : (if t134 = true then ((impl_fallTable.f k l0).bind fun t135 => ((impl_leastOf.f k t135).bind fun t136 => (some (t136, true)))) else (some ([], false))) = some (r1, r2) := H
  have A1_ := Aside0.mk A1_0
  clear A1_0
  by_cases c2_ : t134 = true
  · subst c2_
    have H1 : ((impl_fallTable.f k l0).bind fun t135 => ((impl_leastOf.f k t135).bind fun t136 => (some (t136, true)))) = some (r1, r2) := by rw [if_pos rfl] at H; exact H
    clear H
    have H := H1
    clear H1
    replace H := Option.bind_eq_some_iff.mp H
    obtain ⟨t135, A3_0, H⟩ := H
    replace H : ((impl_leastOf.f k t135).bind fun t136 => (some (t136, true))) = some (r1, r2) := H
    have A3_ := Aside0.mk A3_0
    clear A3_0
    replace H := Option.bind_eq_some_iff.mp H
    obtain ⟨t136, A4_0, H⟩ := H
    replace H : (some (t136, true)) = some (r1, r2) := H
    have A4_ := Aside0.mk A4_0
    clear A4_0
    simp only [Option.some.injEq, Prod.mk.injEq] at H
    obtain ⟨rfl, rfl⟩ := H
    go_enter Try.func41, Try.ntmps41
    go_wp2_with (first | ((with_reducible refine gate_callee (f := 35) rfl ?_); (with_reducible refine gate_dst (N := 5) rfl ?_); refine goesL_ (some 5) rfl rfl Try.func35 (by kernel_rfl) rfl #[.slice A0 l0.length c0] rfl (by (try simp only [List.map_toArray, List.map_cons, List.map_nil]); first | done | rfl | (simp only [List.length_drop, List.length_take]; rfl)) ?_; (with_reducible refine (impl_isWord.calls k _ _ l0 true _ ?sd0 ?sd1 A1_.out).mono ?_); (case sd0 => exact (Kd.C_below HR0.out HM.out.below)); (case sd1 => exact HC0.out); rintro e_ w5_ ⟨rfl, hb⟩; refine ⟨_, rfl, ?_⟩; have n_ := Aside0.mk (HM.out.step hb); clear HM; have HM := n_; clear n_; clear hb) | ((with_reducible refine gate_callee (f := 37) rfl ?_); (with_reducible refine gate_dst (N := 8) rfl ?_); refine goesL_ (some 8) rfl rfl Try.func37 (by kernel_rfl) rfl #[.slice A0 l0.length c0] rfl (by (try simp only [List.map_toArray, List.map_cons, List.map_nil]); first | done | rfl | (simp only [List.length_drop, List.length_take]; rfl)) ?_; (with_reducible refine (impl_fallTable.calls k _ _ l0 t135 _ ?sd0 ?sd1 A3_.out).mono ?_); (case sd0 => exact (Kd.C_below HR0.out HM.out.below)); (case sd1 => exact HC0.out); rintro e_ w6_ ⟨rfl, ho0_, hb⟩; refine ⟨_, rfl, ?_⟩; have HLt135 := Aside0.mk ho0_; have n_ := Aside0.mk (HM.out.step hb); clear HM; have HM := n_; clear n_; clear hb ho0_) | ((with_reducible refine gate_callee (f := 68) rfl ?_); (with_reducible refine gate_dst (N := 9) rfl ?_); refine goesL_ (some 9) rfl rfl Try.func68 (by kernel_rfl) rfl #[.agg (bcs t135)] rfl (by (try simp only [List.map_toArray, List.map_cons, List.map_nil]); first | done | rfl | (simp only [List.length_drop, List.length_take]; rfl)) ?_; (with_reducible refine (impl_leastOf.calls k t135 t136 _ ?sd0 A4_.out).mono ?_); (case sd0 => exact HLt135.out); rintro e_ w7_ ⟨vv0_, rfl, ho0_, hb⟩; refine ⟨_, rfl, ?_⟩; obtain ⟨Ao1_0, co1_0, ev_⟩ := Kd.R_slice ho0_; subst ev_; have n_ := Aside0.mk (HM.out.addR hb ho0_); clear HM; have HM := n_; clear n_; clear hb ho0_))
    go_ret2
    exact ⟨_, by first | rfl | (simp; done) | (simp only [i64_w]; done) | (simp [i64_w]; done) | (simp [*]; done), HM.out.R 0 rfl, HM.out.below⟩
  · replace c2_ := Bool.eq_false_iff.mpr c2_
    subst c2_
    have H1 : (some ([], false)) = some (r1, r2) := by rw [if_neg (show ¬ (false = true) by decide)] at H; exact H
    clear H
    have H := H1
    clear H1
    simp only [Option.some.injEq, Prod.mk.injEq] at H
    obtain ⟨rfl, rfl⟩ := H
    go_enter Try.func41, Try.ntmps41
    go_wp2_with (first | ((with_reducible refine gate_callee (f := 35) rfl ?_); (with_reducible refine gate_dst (N := 5) rfl ?_); refine goesL_ (some 5) rfl rfl Try.func35 (by kernel_rfl) rfl #[.slice A0 l0.length c0] rfl (by (try simp only [List.map_toArray, List.map_cons, List.map_nil]); first | done | rfl | (simp only [List.length_drop, List.length_take]; rfl)) ?_; (with_reducible refine (impl_isWord.calls k _ _ l0 false _ ?sd0 ?sd1 A1_.out).mono ?_); (case sd0 => exact (Kd.C_below HR0.out HM.out.below)); (case sd1 => exact HC0.out); rintro e_ w8_ ⟨rfl, hb⟩; refine ⟨_, rfl, ?_⟩; have n_ := Aside0.mk (HM.out.step hb); clear HM; have HM := n_; clear n_; clear hb))
    go_ret2
    exact ⟨_, by first | rfl | (simp; done) | (simp only [i64_w]; done) | (simp [i64_w]; done) | (simp [*]; done), Kd.R_nil _ _ _ _ _, HM.out.below⟩

/-! ### impl_FamilyOfWord: function 16 -/
def impl_FamilyOfWord.f (k : Nat) (l0 : List Int) : Option (List Int × Bool) := (impl_LeastFalls.f k l0).bind fun bt137 => (some (bt137.1, bt137.2))
set_option maxHeartbeats 8000000 in
set_option maxRecDepth 100000 in
theorem impl_FamilyOfWord.calls (k : Nat) (A0 : Option Addr) (c0 : Nat) (l0 : List Int) (r1 : List Int) (r2 : Bool) (w : World) (hr0 : Kd.C (Kd.int .i64) w A0 l0.length l0) (hc0 : l0.length ≤ c0) (h : impl_FamilyOfWord.f k l0 = some (r1, r2)) :
    Calls Try.prog 16 #[.slice A0 l0.length c0] w fun e w' => ∃ v0_ : Value, e = .returned (.tuple #[.agg #[v0_], .bool r2]) ∧ Kd.R (Kd.int .i64) 3 w' w.heap.size (fun _ => True) v0_ r1 ∧ Below w.heap.size w w' := by
  have HR0 := Aside0.mk hr0
  have HC0 := Aside0.mk hc0
  clear hr0 hc0
  have hu30 := Try.underlying30
  have HM := Aside0.mk (MS.start w)
  have H : ((impl_LeastFalls.f k l0).bind fun bt137 => (some (bt137.1, bt137.2))) = some (r1, r2) := h
  clear h
  replace H := Option.bind_eq_some_iff.mp H
  obtain ⟨⟨t137, t138⟩, A1_0, H⟩ := H
  replace H : (some (t137, t138)) = some (r1, r2) := H
  have A1_ := Aside0.mk A1_0
  clear A1_0
  simp only [Option.some.injEq, Prod.mk.injEq] at H
  obtain ⟨rfl, rfl⟩ := H
  go_enter Try.func16, Try.ntmps16
  go_wp2_with (first | ((with_reducible refine gate_dst (N := 2) rfl ?_); refine box_event ?hg (N := 2) ?hd (cs := #[.slice none 0 0]) (t := 30) ?hr ?_; (case hd => rfl); (case hg => rfl); (case hr => first | (go_simp; done) | (go_simp; rfl)); intro gb1 hg w2_ hbox hb; have n_ := Aside0.mk (HM.out.addBox hb hbox hg); clear HM; have HM := n_; clear n_; clear hb hbox hg) | ((with_reducible refine gate_callee (f := 41) rfl ?_); (with_reducible refine gate_dst (N := 8) rfl ?_); refine goesL_ (some 8) rfl rfl Try.func41 (by kernel_rfl) rfl #[.slice A0 l0.length c0] rfl (by (try simp only [List.map_toArray, List.map_cons, List.map_nil]); first | done | rfl | (simp only [List.length_drop, List.length_take]; rfl)) ?_; (with_reducible refine (impl_LeastFalls.calls k _ _ l0 t137 t138 _ ?sd0 ?sd1 A1_.out).mono ?_); (case sd0 => exact (Kd.C_below HR0.out HM.out.below)); (case sd1 => exact HC0.out); rintro e_ w3_ ⟨vv0_, rfl, ho0_, hb⟩; refine ⟨_, rfl, ?_⟩; obtain ⟨Ao2_0, co2_0, ev_⟩ := Kd.R_slice ho0_; subst ev_; have n_ := Aside0.mk (HM.out.addR hb ho0_); clear HM; have HM := n_; clear n_; clear hb ho0_; have hcz5_0 : w3_.cell? ⟨gb1, 0, none⟩ = some (.slice none 0 0) := (blk_cell (HM.out.box 1 rfl) 0).trans rfl; have hfz5_0 := blk_frozen (HM.out.box 1 rfl) 0) | ((with_reducible refine gate_store (t := 30) (p := 2) rfl ?_); refine store_event (t := 30) (p := 2) (v := ?vow4_) (w1 := (w3_.setCell ⟨gb1, 0, none⟩ (.slice Ao2_0 t137.length co2_0))) ?hg ?ho ?hn ?hr ?_; (case ho => rfl); (case hg => rfl); (case hn => rfl); (case hr => first | (go_simp; done) | (go_simp; rfl)); intro w4_ hw; have n_ : Aside0 (MS w w4_ [.row 3 (.slice Ao2_0 t137.length co2_0) (encs (Value.int .i64) t137), .box gb1 30 #[.slice Ao2_0 t137.length co2_0]]) := ⟨by rw [hw]; exact HM.out.setBox 1 rfl _ _ rfl⟩; clear HM hw; have HM := n_; clear n_))
  refine bodyPost_ret (results_ct rfl _ _ gb1 30 #[.slice Ao2_0 t137.length co2_0] (0, 0) _ rfl (HM.out.box 1 rfl) Try.underlying30 rfl (by kernel_rfl)) rfl ?_
  exact ⟨_, by first | rfl | (simp; done) | (simp only [i64_w]; done) | (simp [i64_w]; done) | (simp [*]; done), HM.out.R 0 rfl, HM.out.below⟩

end Go.Proofs.Ytlbhfbanbdahdaa.Q
