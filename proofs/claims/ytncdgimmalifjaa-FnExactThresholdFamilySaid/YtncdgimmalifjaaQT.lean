-- Written by a program of this session's own (wip/wgen.py): what functions of the program compute, and that they do.
import Derived.Below
import Derived.Deep.Draws
import Derived.Deep.AppendLies
import Derived.Maps.AppendAt
import Derived.OwnWalk
import Derived.Laws.BytesArg
import Derived.Laws.MakeOwn
import Derived.Laws.OwnMore
import Derived.Deep.OwnRows
import Derived.Tactics
import Derived.Lib.ConvBytes
import Derived.Laws.Slices
import Derived.WalkKit
import Derived.KernelRfl
import Derived.RowKit3
import Derived.Deep.LoopGhost
import Derived.Deep.QuietTactic
import Derived.BigQuiet
import Derived.WideLaws
import Derived.Deep.DeepCutAuto
import Derived.Deep.CutBlock
import Derived.Deep.RegionHeld3
import Derived.Laws.Rows
import Derived.Lib.AppendStr
import Derived.ArgAppend
import Derived.Laws.IdiomCopy
import Derived.OrdersHeld
import Derived.Laws.BitsLemmas
import Derived.RowKit
import Derived.Test.YtncdgimmalifjaaHM
import Derived.Test.YtncdgimmalifjaaRG
import Derived.Test.YtncdgimmalifjaaProg
import Derived.Test.YtncdgimmalifjaaQA
import Derived.Test.YtncdgimmalifjaaQB
import Derived.Test.YtncdgimmalifjaaQC
import Derived.Test.YtncdgimmalifjaaK1
namespace Go.Proofs.Ytncdgimmalifjaa.Q
open Go.RowKit Go.Proofs.YtncdgimmalifjaaW.PrintWords Go.Proofs.YtncdgimmalifjaaW.PrintLast Go.Proofs.YtncdgimmalifjaaW.PrintMore Go.Proofs.YtncdgimmalifjaaM Go.Proofs.Ytncdgimmalifjaa.K
attribute [local go_sem] max2_int min2_int max_two min_two max_three min_three max_four min_four
set_option linter.unusedVariables false
set_option linter.unusedSimpArgs false

/-! ### impl_ThresholdFamily_1: function 47 -/
def impl_ThresholdFamily_1.f (a0 : Int) (a1 : Int) (a2 : Int) : Option (Bool) := if 0 ≤ a1 then ((impl_many.f (Go.bits .and .i64 a0 (wrap64 ((shl .i64 1 a1) - 1)))).bind fun t101 => (some (decide (t101 ≥ a2)))) else (none)
set_option maxHeartbeats 8000000 in
set_option maxRecDepth 100000 in
theorem impl_ThresholdFamily_1.calls (a0 : Int) (gb1 : Nat) (a1 : Int) (gb2 : Nat) (a2 : Int) (r : Bool) (w : World) (hq1 : w.heap[gb1]? = some (.cells #[.int .i64 a1] 3 (0, 0))) (hq2 : w.heap[gb2]? = some (.cells #[.int .i64 a2] 3 (0, 0))) (h : impl_ThresholdFamily_1.f a0 a1 a2 = some r) :
    Calls Try.prog 47 #[.int .i64 a0, .pointer (some ⟨gb1, 0, none⟩), .pointer (some ⟨gb2, 0, none⟩)] w fun e w' => e = .returned (.bool r) ∧ Drawn0 w w' := by
  have HQ1 := Aside0.mk hq1
  clear hq1
  have HQ2 := Aside0.mk hq2
  clear hq2
  have HM := Aside0.mk (MS.start w)
  have HD := Aside0.mk (Drawn0.refl w)
  have H : (if 0 ≤ a1 then ((impl_many.f (Go.bits .and .i64 a0 (wrap64 ((shl .i64 1 a1) - 1)))).bind fun t101 => (some (decide (t101 ≥ a2)))) else (none)) = some r := h
  clear h
  by_cases c1_ : 0 ≤ a1
  · rw [if_pos c1_] at H
    have c1_x := eq_true c1_
    have c1_b0 : decide (0 ≤ a1) = true := decide_eq_true c1_
    clear c1_
    obtain ⟨ji2_, hji2_⟩ : ∃ j_ : Int, (shl .i64 1 a1) = j_ := ⟨_, rfl⟩
    replace H : ((impl_many.f (Go.bits .and .i64 a0 (wrap64 (ji2_ - 1)))).bind fun t101 => (some (decide (t101 ≥ a2)))) = some r := by first | (rw [hji2_] at H; exact H) | (simp only [hji2_] at H ⊢; exact H)
    have hji2__ : (IntKind.i64.wrap (1 * 2 ^ min (a1).toNat 64)) = ji2_ := hji2_
    have hji2_z : (a1) ≤ 64 → (IntKind.i64.wrap (1 * 2 ^ (a1).toNat)) = ji2_ := shl_small hji2_
    have hji2_u : (IntKind.i64.wrap (2 ^ min (a1).toNat 64)) = ji2_ := by have h_ := hji2__; rw [Int.one_mul] at h_; exact h_
    have hji2_v : (a1) ≤ 64 → (IntKind.i64.wrap (2 ^ (a1).toNat)) = ji2_ := fun hle_ => by have h_ := hji2_z hle_; rw [Int.one_mul] at h_; exact h_
    have hji2_y : (wrap64 (1 * 2 ^ min (a1).toNat 64)) = ji2_ := (i64_w _).symm.trans hji2__
    have hji2_x : (a1) ≤ 64 → (wrap64 (1 * 2 ^ (a1).toNat)) = ji2_ := fun h_ => (i64_w _).symm.trans (hji2_z h_)
    replace H := Option.bind_eq_some_iff.mp H
    obtain ⟨t101, A3_0, H⟩ := H
    replace H : (some (decide (t101 ≥ a2))) = some r := H
    have A3_ := Aside0.mk A3_0
    clear A3_0
    obtain rfl := Option.some.inj H
    go_enter Try.func47, Try.ntmps47
    go_wp2
    have hcz4_0 : w.cell? ⟨gb1, 0, none⟩ = some (.int .i64 a1) := (blk_cell (blk_below HQ1.out HM.out.below) 0).trans rfl
    have hfz4_0 := blk_frozen (blk_below HQ1.out HM.out.below) 0
    have hcz6_0 : w.cell? ⟨gb2, 0, none⟩ = some (.int .i64 a2) := (blk_cell (blk_below HQ2.out HM.out.below) 0).trans rfl
    have hfz6_0 := blk_frozen (blk_below HQ2.out HM.out.below) 0
    go_quiet ((go_at_call 48; refine calls_quiet (v := .int .i64 t101) ?_; exact (impl_many.calls (Go.bits .and .i64 a0 (wrap64 (ji2_ - 1))) t101 _  A3_.out)))
    generalize hw : World.drewN _ _ = w7_
    have n_ := Aside0.mk (HM.out.step (show Below _ _ w7_ from hw ▸ pw_below_drewN (Below.refl _ _) _))
    have nd_ := Aside0.mk (HD.out.trans (show Drawn0 _ w7_ from ⟨⟨_, hw.symm⟩⟩))
    clear HD
    have HD := nd_
    clear nd_
    clear HM hw
    have HM := n_
    clear n_
    go_wp2
    go_ret
    exact ⟨by first | rfl | (simp; done) | (simp only [← hji2_] <;> (first | rfl | simp)) | (simp [*]; done), HD.out⟩
  · rw [if_neg c1_] at H
    have c1_b0 : decide (0 ≤ a1) = false := decide_eq_false c1_
    clear c1_
    exact absurd H (by simp)

/-! ### impl_ThresholdFamily: function 20 -/
def impl_ThresholdFamily.f (k : Nat) (a0 : Int) (a1 : Int) : Option (List Int × Bool) := (impl_isFew.f a0).bind fun t102 => (if t102 = true then (if a1 < 0 then (some ([], false)) else (if a1 > (wrap64 (a0 + 1)) then (some ([], false)) else ((impl_familyOf.f k (fun x_ => impl_ThresholdFamily_1.f x_ a0 a1)).bind fun t104 => (some (t104, true))))) else (some ([], false)))
set_option maxHeartbeats 8000000 in
set_option maxRecDepth 100000 in
theorem impl_ThresholdFamily.calls (k : Nat) (a0 : Int) (a1 : Int) (r1 : List Int) (r2 : Bool) (w : World)  (h : impl_ThresholdFamily.f k a0 a1 = some (r1, r2)) :
    Calls Try.prog 20 #[.int .i64 a0, .int .i64 a1] w fun e w' => ∃ v0_ : Value, e = .returned (.tuple #[.agg #[v0_], .bool r2]) ∧ Kd.R (Kd.int .i64) 3 w' w.heap.size (fun _ => True) v0_ r1 ∧ Below w.heap.size w w' := by
  have hu24 := Try.underlying24
  have HM := Aside0.mk (MS.start w)
  have H : ((impl_isFew.f a0).bind fun t102 => (if t102 = true then (if a1 < 0 then (some ([], false)) else (if a1 > (wrap64 (a0 + 1)) then (some ([], false)) else ((impl_familyOf.f k (fun x_ => impl_ThresholdFamily_1.f x_ a0 a1)).bind fun t104 => (some (t104, true))))) else (some ([], false)))) = some (r1, r2) := h
  clear h
  replace H := Option.bind_eq_some_iff.mp H
  obtain ⟨t102, A1_0, H⟩ := H
  replace H : (if t102 = true then (if a1 < 0 then (some ([], false)) else (if a1 > (wrap64 (a0 + 1)) then (some ([], false)) else ((impl_familyOf.f k (fun x_ => impl_ThresholdFamily_1.f x_ a0 a1)).bind fun t104 => (some (t104, true))))) else (some ([], false))) = some (r1, r2) := H
  have A1_ := Aside0.mk A1_0
  clear A1_0
  by_cases c2_ : t102 = true
  · subst c2_
    have H1 : (if a1 < 0 then (some ([], false)) else (if a1 > (wrap64 (a0 + 1)) then (some ([], false)) else ((impl_familyOf.f k (fun x_ => impl_ThresholdFamily_1.f x_ a0 a1)).bind fun t104 => (some (t104, true))))) = some (r1, r2) := by rw [if_pos rfl] at H; exact H
    clear H
    have H := H1
    clear H1
    by_cases c3_ : a1 < 0
    · rw [if_pos c3_] at H
      have c3_b0 : decide (a1 < 0) = true := decide_eq_true c3_
      clear c3_
      simp only [Option.some.injEq, Prod.mk.injEq] at H
      obtain ⟨rfl, rfl⟩ := H
      go_enter Try.func20, Try.ntmps20
      go_wp2_with (first | ((with_reducible refine gate_dst (N := 2) rfl ?_); refine box_event ?hg (N := 2) ?hd (cs := #[.int .i64 a0]) (t := 3) ?hr ?_; (case hd => rfl); (case hg => rfl); (case hr => first | (go_simp; done) | (go_simp; rfl)); intro gb1 hg w4_ hbox hb; have n_ := Aside0.mk (HM.out.addBox hb hbox hg); clear HM; have HM := n_; clear n_; clear hb hbox hg) | ((with_reducible refine gate_dst (N := 3) rfl ?_); refine box_event ?hg (N := 3) ?hd (cs := #[.int .i64 a1]) (t := 3) ?hr ?_; (case hd => rfl); (case hg => rfl); (case hr => first | (go_simp; done) | (go_simp; rfl)); intro gb2 hg w5_ hbox hb; have n_ := Aside0.mk (HM.out.addBox hb hbox hg); clear HM; have HM := n_; clear n_; clear hb hbox hg) | ((with_reducible refine gate_dst (N := 4) rfl ?_); refine box_event ?hg (N := 4) ?hd (cs := #[.slice none 0 0]) (t := 24) ?hr ?_; (case hd => rfl); (case hg => rfl); (case hr => first | (go_simp; done) | (go_simp; rfl)); intro gb3 hg w6_ hbox hb; have n_ := Aside0.mk (HM.out.addBox hb hbox hg); clear HM; have HM := n_; clear n_; clear hb hbox hg; have hcz7_0 : w6_.cell? ⟨gb1, 0, none⟩ = some (.int .i64 a0) := (blk_cell (HM.out.box 2 rfl) 0).trans rfl; have hfz7_0 := blk_frozen (HM.out.box 2 rfl) 0) | ((with_reducible refine gate_callee (f := 46) rfl ?_); (with_reducible refine gate_dst (N := 7) rfl ?_); refine goesL_ (some 7) rfl rfl Try.func46 (by kernel_rfl) rfl #[.int .i64 a0] rfl (by (try simp only [List.map_toArray, List.map_cons, List.map_nil]); first | done | rfl | (simp only [List.length_drop, List.length_take]; rfl)) ?_; (with_reducible refine (impl_isFew.calls a0 true _  A1_.out).mono ?_); rintro e_ w8_ ⟨rfl, hd_⟩; refine ⟨_, rfl, ?_⟩; have hb := hd_.below; clear hd_; have n_ := Aside0.mk (HM.out.step hb); clear HM; have HM := n_; clear n_; clear hb; have hcz9_0 : w8_.cell? ⟨gb2, 0, none⟩ = some (.int .i64 a1) := (blk_cell (HM.out.box 1 rfl) 0).trans rfl; have hfz9_0 := blk_frozen (HM.out.box 1 rfl) 0; have hcz11_0 : w8_.cell? ⟨gb3, 0, none⟩ = some (.slice none 0 0) := (blk_cell (HM.out.box 0 rfl) 0).trans rfl; have hfz11_0 := blk_frozen (HM.out.box 0 rfl) 0) | ((with_reducible refine gate_store (t := 24) (p := 4) rfl ?_); refine store_event (t := 24) (p := 4) (v := ?vow10_) (w1 := (w8_.setCell ⟨gb3, 0, none⟩ (.slice none 0 0))) ?hg ?ho ?hn ?hr ?_; (case ho => rfl); (case hg => rfl); (case hn => rfl); (case hr => first | (go_simp; done) | (go_simp; rfl)); intro w10_ hw; have n_ : Aside0 (MS w w10_ [.box gb3 24 #[.slice none 0 0], .box gb2 3 #[.int .i64 a1], .box gb1 3 #[.int .i64 a0]]) := ⟨by rw [hw]; exact HM.out.setBox 0 rfl _ _ rfl⟩; clear HM hw; have HM := n_; clear n_))
      refine bodyPost_ret (results_ct rfl _ _ gb3 24 #[.slice none 0 0] (0, 0) _ rfl (HM.out.box 0 rfl) Try.underlying24 rfl (by kernel_rfl)) rfl ?_
      exact ⟨_, by first | rfl | (simp; done) | (simp [*]; done), Kd.R_nil _ _ _ _ _, HM.out.below⟩
    · rw [if_neg c3_] at H
      have c3_b0 : decide (a1 < 0) = false := decide_eq_false c3_
      clear c3_
      by_cases c12_ : a1 > (wrap64 (a0 + 1))
      · rw [if_pos c12_] at H
        have c12_b0 : decide ((wrap64 (a0 + 1)) < a1) = true := decide_eq_true c12_
        clear c12_
        simp only [Option.some.injEq, Prod.mk.injEq] at H
        obtain ⟨rfl, rfl⟩ := H
        go_enter Try.func20, Try.ntmps20
        go_wp2_with (first | ((with_reducible refine gate_dst (N := 2) rfl ?_); refine box_event ?hg (N := 2) ?hd (cs := #[.int .i64 a0]) (t := 3) ?hr ?_; (case hd => rfl); (case hg => rfl); (case hr => first | (go_simp; done) | (go_simp; rfl)); intro gb1 hg w13_ hbox hb; have n_ := Aside0.mk (HM.out.addBox hb hbox hg); clear HM; have HM := n_; clear n_; clear hb hbox hg) | ((with_reducible refine gate_dst (N := 3) rfl ?_); refine box_event ?hg (N := 3) ?hd (cs := #[.int .i64 a1]) (t := 3) ?hr ?_; (case hd => rfl); (case hg => rfl); (case hr => first | (go_simp; done) | (go_simp; rfl)); intro gb2 hg w14_ hbox hb; have n_ := Aside0.mk (HM.out.addBox hb hbox hg); clear HM; have HM := n_; clear n_; clear hb hbox hg) | ((with_reducible refine gate_dst (N := 4) rfl ?_); refine box_event ?hg (N := 4) ?hd (cs := #[.slice none 0 0]) (t := 24) ?hr ?_; (case hd => rfl); (case hg => rfl); (case hr => first | (go_simp; done) | (go_simp; rfl)); intro gb3 hg w15_ hbox hb; have n_ := Aside0.mk (HM.out.addBox hb hbox hg); clear HM; have HM := n_; clear n_; clear hb hbox hg; have hcz16_0 : w15_.cell? ⟨gb1, 0, none⟩ = some (.int .i64 a0) := (blk_cell (HM.out.box 2 rfl) 0).trans rfl; have hfz16_0 := blk_frozen (HM.out.box 2 rfl) 0) | ((with_reducible refine gate_callee (f := 46) rfl ?_); (with_reducible refine gate_dst (N := 7) rfl ?_); refine goesL_ (some 7) rfl rfl Try.func46 (by kernel_rfl) rfl #[.int .i64 a0] rfl (by (try simp only [List.map_toArray, List.map_cons, List.map_nil]); first | done | rfl | (simp only [List.length_drop, List.length_take]; rfl)) ?_; (with_reducible refine (impl_isFew.calls a0 true _  A1_.out).mono ?_); rintro e_ w17_ ⟨rfl, hd_⟩; refine ⟨_, rfl, ?_⟩; have hb := hd_.below; clear hd_; have n_ := Aside0.mk (HM.out.step hb); clear HM; have HM := n_; clear n_; clear hb; have hcz18_0 : w17_.cell? ⟨gb2, 0, none⟩ = some (.int .i64 a1) := (blk_cell (HM.out.box 1 rfl) 0).trans rfl; have hfz18_0 := blk_frozen (HM.out.box 1 rfl) 0; have hcz19_0 : w17_.cell? ⟨gb1, 0, none⟩ = some (.int .i64 a0) := (blk_cell (HM.out.box 2 rfl) 0).trans rfl; have hfz19_0 := blk_frozen (HM.out.box 2 rfl) 0; have hcz21_0 : w17_.cell? ⟨gb3, 0, none⟩ = some (.slice none 0 0) := (blk_cell (HM.out.box 0 rfl) 0).trans rfl; have hfz21_0 := blk_frozen (HM.out.box 0 rfl) 0) | ((with_reducible refine gate_store (t := 24) (p := 4) rfl ?_); refine store_event (t := 24) (p := 4) (v := ?vow20_) (w1 := (w17_.setCell ⟨gb3, 0, none⟩ (.slice none 0 0))) ?hg ?ho ?hn ?hr ?_; (case ho => rfl); (case hg => rfl); (case hn => rfl); (case hr => first | (go_simp; done) | (go_simp; rfl)); intro w20_ hw; have n_ : Aside0 (MS w w20_ [.box gb3 24 #[.slice none 0 0], .box gb2 3 #[.int .i64 a1], .box gb1 3 #[.int .i64 a0]]) := ⟨by rw [hw]; exact HM.out.setBox 0 rfl _ _ rfl⟩; clear HM hw; have HM := n_; clear n_))
        refine bodyPost_ret (results_ct rfl _ _ gb3 24 #[.slice none 0 0] (0, 0) _ rfl (HM.out.box 0 rfl) Try.underlying24 rfl (by kernel_rfl)) rfl ?_
        exact ⟨_, by first | rfl | (simp; done) | (simp [*]; done), Kd.R_nil _ _ _ _ _, HM.out.below⟩
      · rw [if_neg c12_] at H
        have c12_b0 : decide ((wrap64 (a0 + 1)) < a1) = false := decide_eq_false c12_
        clear c12_
        replace H := Option.bind_eq_some_iff.mp H
        obtain ⟨t104, A22_0, H⟩ := H
        replace H : (some (t104, true)) = some (r1, r2) := H
        have A22_ := Aside0.mk A22_0
        clear A22_0
        simp only [Option.some.injEq, Prod.mk.injEq] at H
        obtain ⟨rfl, rfl⟩ := H
        go_enter Try.func20, Try.ntmps20
        go_wp2_with (first | ((with_reducible refine gate_dst (N := 2) rfl ?_); refine box_event ?hg (N := 2) ?hd (cs := #[.int .i64 a0]) (t := 3) ?hr ?_; (case hd => rfl); (case hg => rfl); (case hr => first | (go_simp; done) | (go_simp; rfl)); intro gb1 hg w23_ hbox hb; have n_ := Aside0.mk (HM.out.addBox hb hbox hg); clear HM; have HM := n_; clear n_; clear hb hbox hg) | ((with_reducible refine gate_dst (N := 3) rfl ?_); refine box_event ?hg (N := 3) ?hd (cs := #[.int .i64 a1]) (t := 3) ?hr ?_; (case hd => rfl); (case hg => rfl); (case hr => first | (go_simp; done) | (go_simp; rfl)); intro gb2 hg w24_ hbox hb; have n_ := Aside0.mk (HM.out.addBox hb hbox hg); clear HM; have HM := n_; clear n_; clear hb hbox hg) | ((with_reducible refine gate_dst (N := 4) rfl ?_); refine box_event ?hg (N := 4) ?hd (cs := #[.slice none 0 0]) (t := 24) ?hr ?_; (case hd => rfl); (case hg => rfl); (case hr => first | (go_simp; done) | (go_simp; rfl)); intro gb3 hg w25_ hbox hb; have n_ := Aside0.mk (HM.out.addBox hb hbox hg); clear HM; have HM := n_; clear n_; clear hb hbox hg; have hcz26_0 : w25_.cell? ⟨gb1, 0, none⟩ = some (.int .i64 a0) := (blk_cell (HM.out.box 2 rfl) 0).trans rfl; have hfz26_0 := blk_frozen (HM.out.box 2 rfl) 0) | ((with_reducible refine gate_callee (f := 46) rfl ?_); (with_reducible refine gate_dst (N := 7) rfl ?_); refine goesL_ (some 7) rfl rfl Try.func46 (by kernel_rfl) rfl #[.int .i64 a0] rfl (by (try simp only [List.map_toArray, List.map_cons, List.map_nil]); first | done | rfl | (simp only [List.length_drop, List.length_take]; rfl)) ?_; (with_reducible refine (impl_isFew.calls a0 true _  A1_.out).mono ?_); rintro e_ w27_ ⟨rfl, hd_⟩; refine ⟨_, rfl, ?_⟩; have hb := hd_.below; clear hd_; have n_ := Aside0.mk (HM.out.step hb); clear HM; have HM := n_; clear n_; clear hb; have hcz28_0 : w27_.cell? ⟨gb2, 0, none⟩ = some (.int .i64 a1) := (blk_cell (HM.out.box 1 rfl) 0).trans rfl; have hfz28_0 := blk_frozen (HM.out.box 1 rfl) 0; have hcz29_0 : w27_.cell? ⟨gb1, 0, none⟩ = some (.int .i64 a0) := (blk_cell (HM.out.box 2 rfl) 0).trans rfl; have hfz29_0 := blk_frozen (HM.out.box 2 rfl) 0; have fv103 := Aside0.mk (show FnB Try.prog w27_ (.func (.func 47) #[] #[.pointer (some ⟨gb1, 0, none⟩), .pointer (some ⟨gb2, 0, none⟩)]) (fun x_ => impl_ThresholdFamily_1.f x_ a0 a1) from FnB.mk Try.func47 rfl rfl (fun W_ hW_ x_ r_ hr_ => (show Calls Try.prog 47 #[.int .i64 x_, .pointer (some ⟨gb1, 0, none⟩), .pointer (some ⟨gb2, 0, none⟩)] W_ _ from drawn_calls (impl_ThresholdFamily_1.calls x_ _ a0 _ a1 r_ W_ (blk_below (HM.out.box 2 rfl) hW_) (blk_below (HM.out.box 1 rfl) hW_) hr_))))) | ((with_reducible refine gate_callee (f := 41) rfl ?_); (with_reducible refine gate_dst (N := 21) rfl ?_); refine goesL_ (some 21) rfl rfl Try.func41 (by kernel_rfl) rfl #[.func (.func 47) #[] #[.pointer (some ⟨gb1, 0, none⟩), .pointer (some ⟨gb2, 0, none⟩)]] rfl (by (try simp only [List.map_toArray, List.map_cons, List.map_nil]); first | done | rfl | (simp only [List.length_drop, List.length_take]; rfl)) ?_; (with_reducible refine (impl_familyOf.calls k _ (fun x_ => impl_ThresholdFamily_1.f x_ a0 a1) t104 _ ?sd0 A22_.out).mono ?_); (case sd0 => exact fv103.out); rintro e_ w30_ ⟨vv0_, rfl, ho0_, hb⟩; refine ⟨_, rfl, ?_⟩; obtain ⟨Ao4_0, co4_0, ev_⟩ := Kd.R_slice ho0_; subst ev_; have n_ := Aside0.mk (HM.out.addR hb ho0_); clear HM; have HM := n_; clear n_; clear hb ho0_; have hcz32_0 : w30_.cell? ⟨gb3, 0, none⟩ = some (.slice none 0 0) := (blk_cell (HM.out.box 1 rfl) 0).trans rfl; have hfz32_0 := blk_frozen (HM.out.box 1 rfl) 0) | ((with_reducible refine gate_store (t := 24) (p := 4) rfl ?_); refine store_event (t := 24) (p := 4) (v := ?vow31_) (w1 := (w30_.setCell ⟨gb3, 0, none⟩ (.slice Ao4_0 t104.length co4_0))) ?hg ?ho ?hn ?hr ?_; (case ho => rfl); (case hg => rfl); (case hn => rfl); (case hr => first | (go_simp; done) | (go_simp; rfl)); intro w31_ hw; have n_ : Aside0 (MS w w31_ [.row 3 (.slice Ao4_0 t104.length co4_0) (encs (Value.int .i64) t104), .box gb3 24 #[.slice Ao4_0 t104.length co4_0], .box gb2 3 #[.int .i64 a1], .box gb1 3 #[.int .i64 a0]]) := ⟨by rw [hw]; exact HM.out.setBox 1 rfl _ _ rfl⟩; clear HM hw; have HM := n_; clear n_))
        refine bodyPost_ret (results_ct rfl _ _ gb3 24 #[.slice Ao4_0 t104.length co4_0] (0, 0) _ rfl (HM.out.box 1 rfl) Try.underlying24 rfl (by kernel_rfl)) rfl ?_
        exact ⟨_, by first | rfl | (simp; done) | (simp [*]; done), HM.out.R 0 rfl, HM.out.below⟩
  · replace c2_ := Bool.eq_false_iff.mpr c2_
    subst c2_
    have H1 : (some ([], false)) = some (r1, r2) := by rw [if_neg (show ¬ (false = true) by decide)] at H; exact H
    clear H
    have H := H1
    clear H1
    simp only [Option.some.injEq, Prod.mk.injEq] at H
    obtain ⟨rfl, rfl⟩ := H
    go_enter Try.func20, Try.ntmps20
    go_wp2_with (first | ((with_reducible refine gate_dst (N := 2) rfl ?_); refine box_event ?hg (N := 2) ?hd (cs := #[.int .i64 a0]) (t := 3) ?hr ?_; (case hd => rfl); (case hg => rfl); (case hr => first | (go_simp; done) | (go_simp; rfl)); intro gb1 hg w33_ hbox hb; have n_ := Aside0.mk (HM.out.addBox hb hbox hg); clear HM; have HM := n_; clear n_; clear hb hbox hg) | ((with_reducible refine gate_dst (N := 3) rfl ?_); refine box_event ?hg (N := 3) ?hd (cs := #[.int .i64 a1]) (t := 3) ?hr ?_; (case hd => rfl); (case hg => rfl); (case hr => first | (go_simp; done) | (go_simp; rfl)); intro gb2 hg w34_ hbox hb; have n_ := Aside0.mk (HM.out.addBox hb hbox hg); clear HM; have HM := n_; clear n_; clear hb hbox hg) | ((with_reducible refine gate_dst (N := 4) rfl ?_); refine box_event ?hg (N := 4) ?hd (cs := #[.slice none 0 0]) (t := 24) ?hr ?_; (case hd => rfl); (case hg => rfl); (case hr => first | (go_simp; done) | (go_simp; rfl)); intro gb3 hg w35_ hbox hb; have n_ := Aside0.mk (HM.out.addBox hb hbox hg); clear HM; have HM := n_; clear n_; clear hb hbox hg; have hcz36_0 : w35_.cell? ⟨gb1, 0, none⟩ = some (.int .i64 a0) := (blk_cell (HM.out.box 2 rfl) 0).trans rfl; have hfz36_0 := blk_frozen (HM.out.box 2 rfl) 0) | ((with_reducible refine gate_callee (f := 46) rfl ?_); (with_reducible refine gate_dst (N := 7) rfl ?_); refine goesL_ (some 7) rfl rfl Try.func46 (by kernel_rfl) rfl #[.int .i64 a0] rfl (by (try simp only [List.map_toArray, List.map_cons, List.map_nil]); first | done | rfl | (simp only [List.length_drop, List.length_take]; rfl)) ?_; (with_reducible refine (impl_isFew.calls a0 false _  A1_.out).mono ?_); rintro e_ w37_ ⟨rfl, hd_⟩; refine ⟨_, rfl, ?_⟩; have hb := hd_.below; clear hd_; have n_ := Aside0.mk (HM.out.step hb); clear HM; have HM := n_; clear n_; clear hb; have hcz39_0 : w37_.cell? ⟨gb3, 0, none⟩ = some (.slice none 0 0) := (blk_cell (HM.out.box 0 rfl) 0).trans rfl; have hfz39_0 := blk_frozen (HM.out.box 0 rfl) 0) | ((with_reducible refine gate_store (t := 24) (p := 4) rfl ?_); refine store_event (t := 24) (p := 4) (v := ?vow38_) (w1 := (w37_.setCell ⟨gb3, 0, none⟩ (.slice none 0 0))) ?hg ?ho ?hn ?hr ?_; (case ho => rfl); (case hg => rfl); (case hn => rfl); (case hr => first | (go_simp; done) | (go_simp; rfl)); intro w38_ hw; have n_ : Aside0 (MS w w38_ [.box gb3 24 #[.slice none 0 0], .box gb2 3 #[.int .i64 a1], .box gb1 3 #[.int .i64 a0]]) := ⟨by rw [hw]; exact HM.out.setBox 0 rfl _ _ rfl⟩; clear HM hw; have HM := n_; clear n_))
    refine bodyPost_ret (results_ct rfl _ _ gb3 24 #[.slice none 0 0] (0, 0) _ rfl (HM.out.box 0 rfl) Try.underlying24 rfl (by kernel_rfl)) rfl ?_
    exact ⟨_, by first | rfl | (simp; done) | (simp [*]; done), Kd.R_nil _ _ _ _ _, HM.out.below⟩

end Go.Proofs.Ytncdgimmalifjaa.Q
