-- Written by a program of this session's own (wip/wgen.py): what functions of the program compute, and that they do.
import Derived.Below
import Derived.Deep.Draws
import Derived.Deep.AppendLies
import Derived.Maps.AppendAt
import Derived.OwnWalk
import Derived.Laws.BytesArg
import Derived.Laws.MakeOwn
import Derived.Laws.OwnMore
import Derived.Deep.OwnRows
import Derived.Tactics
import Derived.Lib.ConvBytes
import Derived.Laws.Slices
import Derived.WalkKit
import Derived.KernelRfl
import Derived.RowKit3
import Derived.Deep.LoopGhost
import Derived.Deep.QuietTactic
import Derived.BigQuiet
import Derived.WideLaws
import Derived.Deep.DeepCutAuto
import Derived.Deep.CutBlock
import Derived.Deep.RegionHeld3
import Derived.Laws.Rows
import Derived.Lib.AppendStr
import Derived.ArgAppend
import Derived.Laws.IdiomCopy
import Derived.OrdersHeld
import Derived.Laws.BitsLemmas
import Derived.RowKit
import Derived.Lib.SliceRun
import Derived.Test.YtblhjcdfccggfaaHM
import Derived.Test.YtblhjcdfccggfaaRG
import Derived.Test.YtblhjcdfccggfaaProg
import Derived.Test.YtblhjcdfccggfaaK1
import Derived.Test.YtblhjcdfccggfaaK2
import Derived.Test.YtblhjcdfccggfaaKL1
import Derived.Test.YtblhjcdfccggfaaQI
namespace Go.Proofs.Ytblhjcdfccggfaa.Q
open Go.RowKit Go.Proofs.YtblhjcdfccggfaaW.PrintWords Go.Proofs.YtblhjcdfccggfaaW.PrintLast Go.Proofs.YtblhjcdfccggfaaW.PrintMore Go.Proofs.YtblhjcdfccggfaaM Go.Proofs.Ytblhjcdfccggfaa.K Go.Proofs.Ytblhjcdfccggfaa.KL
attribute [local go_sem] max2_int min2_int max_two min_two max_three min_three max_four min_four
set_option linter.unusedVariables false
set_option linter.unusedSimpArgs false

/-! ### spec_l8Behind: function 48 -/
mutual
def spec_l8Behind.l0 : Nat → (Int) → (Int) → (Int) → (Int) → (List Int) → (List Int) → Option (List Int)
  | 0, _, _, _, _, _, _ => none
  | k + 1, x1, x5, x7, x8, m3, m1 => if x8 < 6 then (if 0 ≤ x8 then (if 0 ≤ x5 then (if x5 < 6 then (spec_l8Behind.l1 k x1 x5 x7 x8 0 (m3.set (6 + x8.toNat * 6 + x5.toNat) (wrap64 ((m1.getD (6 + x8.toNat * 6 + x5.toNat) 0) + (wrap64 (x7 * (m1.getD (x8.toNat) 0)))))) m1) else (none)) else (none)) else (none)) else (if x1 < 0 then (if 0 ≤ x5 then (if x5 < 6 then (spec_l8Behind.l2 k x5 0 (m3.set (6 + x5.toNat * 6 + x5.toNat) (wrap64 ((m3.getD (6 + x5.toNat * 6 + x5.toNat) 0) + 1))) m1) else (none)) else (none)) else (some m3))
def spec_l8Behind.l1 : Nat → (Int) → (Int) → (Int) → (Int) → (Int) → (List Int) → (List Int) → Option (List Int)
  | 0, _, _, _, _, _, _, _ => none
  | k + 1, x1, x5, x7, x8, x9, m3, m1 => if x9 < 6 then (if 0 ≤ x8 then (if x8 < 6 then (if 0 ≤ x9 then (if 0 ≤ x5 then (if x5 < 6 then (spec_l8Behind.l1 k x1 x5 x7 x8 (wrap64 (x9 + 1)) (m3.set (42 + x8.toNat * 36 + x9.toNat * 6 + x5.toNat) (wrap64 ((m1.getD (42 + x8.toNat * 36 + x9.toNat * 6 + x5.toNat) 0) + (wrap64 (x7 * (m1.getD (6 + x8.toNat * 6 + x9.toNat) 0)))))) m1) else (none)) else (none)) else (none)) else (none)) else (none)) else (spec_l8Behind.l0 k x1 x5 x7 (wrap64 (x8 + 1)) m3 m1)
def spec_l8Behind.l2 : Nat → (Int) → (Int) → (List Int) → (List Int) → Option (List Int)
  | 0, _, _, _, _ => none
  | k + 1, x5, x10, m3, m1 => if x10 < 6 then (if 0 ≤ x10 then (if 0 ≤ x5 then (if x5 < 6 then (spec_l8Behind.l2 k x5 (wrap64 (x10 + 1)) (m3.set (42 + x10.toNat * 36 + x5.toNat * 6 + x5.toNat) (wrap64 ((m3.getD (42 + x10.toNat * 36 + x5.toNat * 6 + x5.toNat) 0) + (m1.getD (x10.toNat) 0)))) m1) else (none)) else (none)) else (none)) else (if 0 ≤ x5 then (if x5 < 6 then (some (m3.set (42 + x5.toNat * 36 + x5.toNat * 6 + x5.toNat) (wrap64 ((m3.getD (42 + x5.toNat * 36 + x5.toNat * 6 + x5.toNat) 0) - 1)))) else (none)) else (none))
end
def spec_l8Behind.f (k : Nat) (l0 : List Int) (a1 : Int) : Option (List Int) := (spec_l2Nail.f a1).bind fun t101 => (if a1 < 0 then (if 0 ≤ (wrap64 (t101 - 1)) then (if (wrap64 (t101 - 1)) < 6 then (spec_l8Behind.l0 k a1 (wrap64 (t101 - 1)) (-1) 0 (l0.set ((wrap64 (t101 - 1)).toNat) (wrap64 ((l0.getD ((wrap64 (t101 - 1)).toNat) 0) + (-1)))) l0) else (none)) else (none)) else (if 0 ≤ (wrap64 (t101 - 1)) then (if (wrap64 (t101 - 1)) < 6 then (spec_l8Behind.l0 k a1 (wrap64 (t101 - 1)) 1 0 (l0.set ((wrap64 (t101 - 1)).toNat) (wrap64 ((l0.getD ((wrap64 (t101 - 1)).toNat) 0) + 1))) l0) else (none)) else (none)))
set_option maxHeartbeats 8000000 in
set_option maxRecDepth 100000 in
theorem spec_l8Behind.calls (k : Nat) (l0 : List Int) (a1 : Int) (r : List Int) (w : World) (hl0 : l0.length = 258) (h : spec_l8Behind.f k l0 a1 = some r) :
    Calls Try.prog 48 #[.agg (ics l0), .int .i64 a1] w fun e w' => e = .returned (.agg (ics r)) ∧ r.length = 258 ∧ Below w.heap.size w w' := by
  have HL0 := Aside0.mk hl0
  clear hl0
  have hu41 := Try.underlying41
  have hu42 := Try.underlying42
  have hu43 := Try.underlying43
  have hu45 := Try.underlying45
  have HM := Aside0.mk (MS.start w)
  have H : ((spec_l2Nail.f a1).bind fun t101 => (if a1 < 0 then (if 0 ≤ (wrap64 (t101 - 1)) then (if (wrap64 (t101 - 1)) < 6 then (spec_l8Behind.l0 k a1 (wrap64 (t101 - 1)) (-1) 0 (l0.set ((wrap64 (t101 - 1)).toNat) (wrap64 ((l0.getD ((wrap64 (t101 - 1)).toNat) 0) + (-1)))) l0) else (none)) else (none)) else (if 0 ≤ (wrap64 (t101 - 1)) then (if (wrap64 (t101 - 1)) < 6 then (spec_l8Behind.l0 k a1 (wrap64 (t101 - 1)) 1 0 (l0.set ((wrap64 (t101 - 1)).toNat) (wrap64 ((l0.getD ((wrap64 (t101 - 1)).toNat) 0) + 1))) l0) else (none)) else (none)))) = some r := h
  clear h
  replace H := Option.bind_eq_some_iff.mp H
  obtain ⟨t101, A1_0, H⟩ := H
  replace H : (if a1 < 0 then (if 0 ≤ (wrap64 (t101 - 1)) then (if (wrap64 (t101 - 1)) < 6 then (spec_l8Behind.l0 k a1 (wrap64 (t101 - 1)) (-1) 0 (l0.set ((wrap64 (t101 - 1)).toNat) (wrap64 ((l0.getD ((wrap64 (t101 - 1)).toNat) 0) + (-1)))) l0) else (none)) else (none)) else (if 0 ≤ (wrap64 (t101 - 1)) then (if (wrap64 (t101 - 1)) < 6 then (spec_l8Behind.l0 k a1 (wrap64 (t101 - 1)) 1 0 (l0.set ((wrap64 (t101 - 1)).toNat) (wrap64 ((l0.getD ((wrap64 (t101 - 1)).toNat) 0) + 1))) l0) else (none)) else (none))) = some r := H
  have A1_ := Aside0.mk A1_0
  clear A1_0
  have H' := Aside0.mk H
  clear H
  go_enter Try.func48, Try.ntmps48
  go_wp2_with (first | ((with_reducible refine gate_dst (N := 2) rfl ?_); refine box_event ?hg (N := 2) ?hd (cs := (ics l0)) (t := 45) ?hr ?_; (case hd => rfl); (case hg => rfl); (case hr => first | (go_simp; done) | (go_simp; rfl)); intro gb1 hg w2_ hbox hb; have n_ := Aside0.mk (HM.out.addBox hb hbox hg); clear HM; have HM := n_; clear n_; clear hb hbox hg) | ((with_reducible refine gate_dst (N := 4) rfl ?_); refine box_event ?hg (N := 4) ?hd (cs := (ics (List.replicate 258 0))) (t := 45) ?hr ?_; (case hd => rfl); (case hg => rfl); (case hr => first | (go_simp; done) | (go_simp; rfl)); intro gb2 hg w3_ hbox hb; have n_ := Aside0.mk (HM.out.addBox hb hbox hg); clear HM; have HM := n_; clear n_; clear hb hbox hg))
  have n_ := Aside0.mk (HM.out.step (below_drew1 (Below.refl w3_.heap.size w3_)))
  clear HM
  have HM := n_
  clear n_
  refine start_ (n := 7) (S := fun w' => (w'.heap[gb1]? = some (.cells (ics l0) 45 (0, 0)))) (ds := [6]) #[false, false, false, false, false, false, false] (by kernel_rfl) rfl rfl ((HM.out.box 1 rfl)) (fun hHeld => ?_)
  generalize w3_.drew = w4_ at HM hHeld ⊢
  refine pure_ (i := 0) (N := some 11) (v := ?_) (a' := ?_) #[true, false, false, false, false, false, false] rfl rfl (by kernel_rfl) (fun _ _ _ h => h) (Or.inl ⟨by rfl, ?_⟩) ?_ ?_
  rotate_left
  · intro w'
    go_simp
    first | with_reducible rfl | (simp [Instr.field, asAgg, Go.part, run_underlying hu41, run_underlying hu42, run_underlying hu43, run_underlying hu45]; rfl) | rfl
  rotate_left
  · simp only [Act.put, List.setIfInBounds_toArray, List.set_cons_zero, List.set_cons_succ, i64_w, i32_w]
    rfl
  refine take_ (i := 3) (N := some 14) (v := ?_) (a' := ?_) #[true, false, false, true, false, false, false] rfl rfl (by kernel_rfl) (fun _ _ _ h => h) (Or.inl ⟨by rfl, ?_⟩) hHeld ?_ ?_
  rotate_left
  · intro w' s0
    refine load_arr 45 (.tmp 2) ?hoe5_ gb1 ?hxe5_ 45 (ics l0) (0, 0) _ (s0) Try.underlying45 rfl (by rw [ics_size, HL0.out]; kernel_rfl)
    (case hoe5_ => rfl)
    (case hxe5_ => rfl)
  rotate_left
  · simp only [Act.put, List.setIfInBounds_toArray, List.set_cons_zero, List.set_cons_succ, i64_w, i32_w]
    rfl
  refine join_ (σ := (Nat)) 1 #[true, true, true, true, true, true, false] (fun s_ => [(12, .int .i64 t101), (13, .int .i64 (wrap64 (t101 - 1))), (6, .pointer (some ⟨s_, 0, none⟩)), (5, .int .i64 (wrap64 (t101 - 1)))]) (fun s_ w' => MS w w' [.box s_ 45 (ics (List.replicate 258 0)), .box gb2 45 (ics (List.replicate 258 0)), .box gb1 45 (ics l0)]) ?_ ?_
  rotate_left
  · intro hC
    refine two_ (i := 1) (j := 4) (Ni := some 12) (Nj := some 6) #[true, true, false, true, false, false, false] #[true, false, false, true, true, false, false] rfl rfl rfl rfl (by kernel_rfl) (by decide) (by decide) (fun K hK => ?_) (fun K hK => ?_)
    · refine goes_ Try.func59 (by kernel_rfl) rfl #[.int .i64 a1] (by rfl) rfl rfl (by (try simp only [List.map_toArray, List.map_cons, List.map_nil]); first | done | rfl | (simp only [List.length_drop, List.length_take]; rfl)) ?_
      with_reducible refine (spec_l2Nail.calls a1 t101 _  A1_.out).mono ?_
      rintro e_ w6_ ⟨rfl, hd_⟩
      refine ⟨_, rfl, ?_⟩
      have hb := hd_.below
      clear hd_
      have n_ := Aside0.mk (HM.out.step hb)
      clear HM
      have HM := n_
      clear n_
      clear hb
      refine hK.out _ _ ((HM.out.box 1 rfl)) (fun hHeld => ?_)
      clear hK K
      refine norm_ (a' := ?_) ?_ ?_
      rotate_left
      · show Act.put _ (some 12) _ = _
        simp only [Act.put, List.setIfInBounds_toArray, List.set_cons_zero, List.set_cons_succ, i64_w, i32_w]
        rfl
      refine pure_ (i := 2) (N := some 13) (v := ?_) (a' := ?_) #[true, true, true, true, false, false, false] rfl rfl (by kernel_rfl) (fun _ _ _ h => h) (Or.inl ⟨by rfl, ?_⟩) ?_ ?_
      rotate_left
      · intro w'
        go_simp
        first | with_reducible rfl | (simp [Instr.field, asAgg, Go.part, run_underlying hu41, run_underlying hu42, run_underlying hu43, run_underlying hu45]; rfl) | rfl
      rotate_left
      · simp only [Act.put, List.setIfInBounds_toArray, List.set_cons_zero, List.set_cons_succ, i64_w, i32_w]
        rfl
      refine one_ (i := 4) (N := some 6) #[true, true, true, true, true, false, false] rfl rfl (by kernel_rfl) (by decide) (fun K hK => ?_)
      refine value_ (w1 := w6_.alloc (.cells (ics (List.replicate 258 0)) 45)) (v := .pointer (some ⟨w6_.heap.size, 0, none⟩)) (by rfl) rfl ?_ ?_
      · first | (go_simp; done) | (go_simp; rfl)
      obtain ⟨gb3, hgb_⟩ : ∃ g_ : Nat, g_ = w6_.heap.size := ⟨_, rfl⟩
      rw [← hgb_]
      obtain ⟨w7_, hw_⟩ : ∃ w_ : World, w_ = w6_.alloc (.cells (ics (List.replicate 258 0)) 45) := ⟨_, rfl⟩
      rw [← hw_]
      have hbx_ : w7_.heap[gb3]? = some (.cells (ics (List.replicate 258 0)) 45 (0, 0)) := by rw [hw_, hgb_]; exact blk_new _ _
      have hb : Below w6_.heap.size w6_ w7_ := by rw [hw_]; exact below_alloc (Below.refl _ _) _
      have n_ := Aside0.mk (HM.out.addBox hb hbx_ hgb_)
      clear HM
      have HM := n_
      clear n_
      clear hb hbx_ hgb_ hw_
      refine hK.out _ _ ((HM.out.box 2 rfl)) (fun hHeld => ?_)
      clear hK K
      refine norm_ (a' := ?_) ?_ ?_
      rotate_left
      · show Act.put _ (some 6) _ = _
        simp only [Act.put, List.setIfInBounds_toArray, List.set_cons_zero, List.set_cons_succ, i64_w, i32_w]
        rfl
      refine pure_ (i := 5) (N := some 5) (v := ?_) (a' := ?_) #[true, true, true, true, true, true, false] rfl rfl (by kernel_rfl) (fun _ _ _ h => h) (Or.inl ⟨by rfl, ?_⟩) ?_ ?_
      rotate_left
      · intro w'
        go_simp
        first | with_reducible rfl | (simp [Instr.field, asAgg, Go.part, run_underlying hu41, run_underlying hu42, run_underlying hu43, run_underlying hu45]; rfl) | rfl
      rotate_left
      · simp only [Act.put, List.setIfInBounds_toArray, List.set_cons_zero, List.set_cons_succ, i64_w, i32_w]
        rfl
      have h_ := hC (gb3) w7_ (HM.out)
      simp only [putAll, Act.put, List.setIfInBounds_toArray, List.set_cons_zero, List.set_cons_succ] at h_
      exact h_
    · refine value_ (w1 := w4_.alloc (.cells (ics (List.replicate 258 0)) 45)) (v := .pointer (some ⟨w4_.heap.size, 0, none⟩)) (by rfl) rfl ?_ ?_
      · first | (go_simp; done) | (go_simp; rfl)
      obtain ⟨gb3, hgb_⟩ : ∃ g_ : Nat, g_ = w4_.heap.size := ⟨_, rfl⟩
      rw [← hgb_]
      obtain ⟨w8_, hw_⟩ : ∃ w_ : World, w_ = w4_.alloc (.cells (ics (List.replicate 258 0)) 45) := ⟨_, rfl⟩
      rw [← hw_]
      have hbx_ : w8_.heap[gb3]? = some (.cells (ics (List.replicate 258 0)) 45 (0, 0)) := by rw [hw_, hgb_]; exact blk_new _ _
      have hb : Below w4_.heap.size w4_ w8_ := by rw [hw_]; exact below_alloc (Below.refl _ _) _
      have n_ := Aside0.mk (HM.out.addBox hb hbx_ hgb_)
      clear HM
      have HM := n_
      clear n_
      clear hb hbx_ hgb_ hw_
      refine hK.out _ _ ((HM.out.box 2 rfl)) (fun hHeld => ?_)
      clear hK K
      refine norm_ (a' := ?_) ?_ ?_
      rotate_left
      · show Act.put _ (some 6) _ = _
        simp only [Act.put, List.setIfInBounds_toArray, List.set_cons_zero, List.set_cons_succ, i64_w, i32_w]
        rfl
      refine one_ (i := 1) (N := some 12) #[true, true, false, true, true, false, false] rfl rfl (by kernel_rfl) (by decide) (fun K hK => ?_)
      refine goes_ Try.func59 (by kernel_rfl) rfl #[.int .i64 a1] (by rfl) rfl rfl (by (try simp only [List.map_toArray, List.map_cons, List.map_nil]); first | done | rfl | (simp only [List.length_drop, List.length_take]; rfl)) ?_
      with_reducible refine (spec_l2Nail.calls a1 t101 _  A1_.out).mono ?_
      rintro e_ w9_ ⟨rfl, hd_⟩
      refine ⟨_, rfl, ?_⟩
      have hb := hd_.below
      clear hd_
      have n_ := Aside0.mk (HM.out.step hb)
      clear HM
      have HM := n_
      clear n_
      clear hb
      refine hK.out _ _ ((HM.out.box 2 rfl)) (fun hHeld => ?_)
      clear hK K
      refine norm_ (a' := ?_) ?_ ?_
      rotate_left
      · show Act.put _ (some 12) _ = _
        simp only [Act.put, List.setIfInBounds_toArray, List.set_cons_zero, List.set_cons_succ, i64_w, i32_w]
        rfl
      refine pure_ (i := 2) (N := some 13) (v := ?_) (a' := ?_) #[true, true, true, true, true, false, false] rfl rfl (by kernel_rfl) (fun _ _ _ h => h) (Or.inl ⟨by rfl, ?_⟩) ?_ ?_
      rotate_left
      · intro w'
        go_simp
        first | with_reducible rfl | (simp [Instr.field, asAgg, Go.part, run_underlying hu41, run_underlying hu42, run_underlying hu43, run_underlying hu45]; rfl) | rfl
      rotate_left
      · simp only [Act.put, List.setIfInBounds_toArray, List.set_cons_zero, List.set_cons_succ, i64_w, i32_w]
        rfl
      refine pure_ (i := 5) (N := some 5) (v := ?_) (a' := ?_) #[true, true, true, true, true, true, false] rfl rfl (by kernel_rfl) (fun _ _ _ h => h) (Or.inl ⟨by rfl, ?_⟩) ?_ ?_
      rotate_left
      · intro w'
        go_simp
        first | with_reducible rfl | (simp [Instr.field, asAgg, Go.part, run_underlying hu41, run_underlying hu42, run_underlying hu43, run_underlying hu45]; rfl) | rfl
      rotate_left
      · simp only [Act.put, List.setIfInBounds_toArray, List.set_cons_zero, List.set_cons_succ, i64_w, i32_w]
        rfl
      have h_ := hC (gb3) w9_ (HM.out)
      simp only [putAll, Act.put, List.setIfInBounds_toArray, List.set_cons_zero, List.set_cons_succ] at h_
      exact h_
  · rintro gb3 w10_ hm_
    have n_ := Aside0.mk (show MS w w10_ [.box gb3 45 (ics (List.replicate 258 0)), .box gb2 45 (ics (List.replicate 258 0)), .box gb1 45 (ics l0)] from hm_)
    clear HM
    have HM := n_
    clear n_
    clear hm_
    have hHeld : (w10_.heap[gb1]? = some (.cells (ics l0) 45 (0, 0))) := (HM.out.box 2 rfl)
    refine norm_ (a' := ?_) ?_ ?_
    rotate_left
    · simp only [putAll, Act.put, List.setIfInBounds_toArray, List.set_cons_zero, List.set_cons_succ]
      rfl
    refine last_ (i := 6) (N := none) #[true, true, true, true, true, true, true] rfl rfl (by kernel_rfl) (by decide) (fun K hK => ?_)
    rw [if_pos (by rfl)]
    refine wp_store_row 45 (.tmp 6) (.tmp 14) rfl gb3 (ics l0) rfl rfl 45 (ics (List.replicate 258 0)) (HM.out.box 0 rfl) (by rw [ics_size, HL0.out]; kernel_rfl) ((ics_size _).trans (((List.length_replicate)).trans ((show _ = 258 from HL0.out).symm.trans (ics_size _).symm))) (ics_one _) ?_
    generalize hw : World.setRow _ _ _ = w11_
    have n_ : Aside0 (MS w w11_ [.box gb3 45 (ics l0), .box gb2 45 (ics (List.replicate 258 0)), .box gb1 45 (ics l0)]) := ⟨by rw [← hw]; exact HM.out.setRow 0 rfl _⟩
    clear HM hw
    have HM := n_
    clear n_
    refine (show K _ w11_ from ?_)
    refine hK.out _ _ ?_
    clear hK K
    refine done_ (by kernel_rfl) ?_
    have H := H'.out
    clear H'
    by_cases c12_ : a1 < 0
    · rw [if_pos c12_] at H
      have KNc12_ := Aside0.mk c12_
      have c12_b0 : decide (a1 < 0) = true := decide_eq_true c12_
      clear c12_
      obtain ⟨ji13_, hji13_⟩ : ∃ j_ : Int, (wrap64 (t101 - 1)) = j_ := ⟨_, rfl⟩
      replace H : (if 0 ≤ ji13_ then (if ji13_ < 6 then (spec_l8Behind.l0 k a1 ji13_ (-1) 0 (l0.set (ji13_.toNat) (wrap64 ((l0.getD (ji13_.toNat) 0) + (-1)))) l0) else (none)) else (none)) = some r := by first | (rw [hji13_] at H; exact H) | (simp only [hji13_] at H ⊢; exact H)
      have hji13_w : (IntKind.i64.wrap (t101 - 1)) = ji13_ := (i64_w _).trans hji13_
      by_cases c14_ : 0 ≤ ji13_
      · rw [if_pos c14_] at H
        have c14_b0 : decide (0 ≤ ji13_) = true := decide_eq_true c14_
        clear c14_
        by_cases c15_ : ji13_ < 6
        · rw [if_pos c15_] at H
          have c15_b0 : decide (ji13_ < 6) = true := decide_eq_true c15_
          clear c15_
          obtain ⟨y103, hy103⟩ : ∃ y_, y_ = (l0.set (ji13_.toNat) (wrap64 ((l0.getD (ji13_.toNat) 0) + (-1)))) := ⟨_, rfl⟩
          replace H : (spec_l8Behind.l0 k a1 ji13_ (-1) 0 y103 l0) = some r := by first | (rw [hy103]; with_reducible exact H) | (have H2_ := (Option.bind_some _ _).symm.trans H; rw [hy103]; with_reducible exact H2_) | (have H2_ := (Option.bind_some _ _).symm.trans H; with_reducible exact H2_) | with_reducible exact H | (rw [hy103]; exact H) | exact H
          have Ny103 := Aside0.mk hy103
          clear hy103
          have H' := Aside0.mk H
          clear H
          have p102_0 : 0 ≤ (ji13_ : Int) := of_decide_eq_true (by first | (with_reducible assumption) | assumption)
          have q102_0 : (ji13_ : Int) < 6 := of_decide_eq_true (by first | (with_reducible assumption) | assumption)
          have o102 : ji13_.toNat < l0.length := (by have h_ : l0.length = 258 := HL0.out; rw [h_]; omega)
          have hx102 := xcellI (HM.out.box 2 rfl) (ji13_.toNat) o102
          clear o102
          replace p102_0 := eq_true p102_0
          replace q102_0 := eq_true q102_0
          have p104_0 : 0 ≤ (ji13_ : Int) := of_decide_eq_true (by first | (with_reducible assumption) | assumption)
          have q104_0 : (ji13_ : Int) < 6 := of_decide_eq_true (by first | (with_reducible assumption) | assumption)
          have o104 : ji13_.toNat < l0.length := (by have h_ : l0.length = 258 := HL0.out; rw [h_]; omega)
          have hx104 := xcellI (HM.out.box 0 rfl) (ji13_.toNat) o104
          clear o104
          replace p104_0 := eq_true p104_0
          replace q104_0 := eq_true q104_0
          have hf104 := blk_frozen (HM.out.box 0 rfl) (ji13_.toNat)
          go_wp2_with (first | ((with_reducible refine gate_store (t := 3) (p := 25) rfl ?_); refine store_event (t := 3) (p := 25) (v := ?vow16_) (w1 := (w11_.setCell ⟨gb3, ji13_.toNat, none⟩ (.int .i64 (wrap64 ((l0.getD (ji13_.toNat) 0) + (-1)))))) ?hg ?ho ?hn ?hr ?_; (case ho => rfl); (case hg => rfl); (case hn => rfl); (case hr => first | (go_simp; done) | (go_simp; rfl)); intro w16_ hw; have n_ : Aside0 (MS w w16_ [.box gb3 45 (ics y103), .box gb2 45 (ics (List.replicate 258 0)), .box gb1 45 (ics l0)]) := ⟨by rw [hw]; exact HM.out.setBox 0 rfl _ _ (by rw [ics_set, ← Ny103.out])⟩; clear HM hw; have HM := n_; clear n_))
          go_loopg [8] k (fun kq v8 w' => ∃ (x8_17 : Int) (m3_17 : List Int), v8 = .int .i64 x8_17 ∧ Aside0 (spec_l8Behind.l0 kq a1 ji13_ (-1) x8_17 m3_17 l0 = some r) ∧ Aside0 (kq ≤ k) ∧ Aside0 (m3_17.length = 258) ∧ Aside0 (MS w w' [.box gb3 45 (ics m3_17), .box gb2 45 (ics (List.replicate 258 0)), .box gb1 45 (ics l0)]))
          case atStart => exact ⟨(0), (y103), (by first | rfl | (simp; done) | (simp only [i64_w]; done) | (simp [i64_w]; done) | (simp only [← hji13_] <;> (first | rfl | (simp only [i64_w]; done) | simp)) | (simp [*]; done)), H', ⟨Nat.le_refl _⟩, ⟨(show y103.length = 258 from by rw [Ny103.out, List.length_set]; exact HL0.out)⟩, HM⟩
          case round =>
            clear H'
            clear HM
            obtain ⟨x8_17, m3_17, rfl, HA, HK18_, HLm3_17, HM⟩ := hrel
            cases gk with
            | zero => exact absurd HA.out (by simp [spec_l8Behind.l0])
            | succ k19_ =>
              have H := HA.out
              clear HA
              simp only [spec_l8Behind.l0] at H
              by_cases c20_ : x8_17 < 6
              · rw [if_pos c20_] at H
                have c20_b0 : decide (x8_17 < 6) = true := decide_eq_true c20_
                clear c20_
                by_cases c21_ : 0 ≤ x8_17
                · rw [if_pos c21_] at H
                  have c21_b0 : decide (0 ≤ x8_17) = true := decide_eq_true c21_
                  clear c21_
                  by_cases c22_ : 0 ≤ ji13_
                  · rw [if_pos c22_] at H
                    have c22_b0 : decide (0 ≤ ji13_) = true := decide_eq_true c22_
                    clear c22_
                    by_cases c23_ : ji13_ < 6
                    · rw [if_pos c23_] at H
                      have c23_b0 : decide (ji13_ < 6) = true := decide_eq_true c23_
                      clear c23_
                      obtain ⟨y107, hy107⟩ : ∃ y_, y_ = (m3_17.set (6 + x8_17.toNat * 6 + ji13_.toNat) (wrap64 ((l0.getD (6 + x8_17.toNat * 6 + ji13_.toNat) 0) + (wrap64 ((-1) * (l0.getD (x8_17.toNat) 0)))))) := ⟨_, rfl⟩
                      replace H : (spec_l8Behind.l1 k19_ a1 ji13_ (-1) x8_17 0 y107 l0) = some r := by first | (rw [hy107]; with_reducible exact H) | (have H2_ := (Option.bind_some _ _).symm.trans H; rw [hy107]; with_reducible exact H2_) | (have H2_ := (Option.bind_some _ _).symm.trans H; with_reducible exact H2_) | with_reducible exact H | (rw [hy107]; exact H) | exact H
                      have Ny107 := Aside0.mk hy107
                      clear hy107
                      have H' := Aside0.mk H
                      clear H
                      go_wp2
                      have p105_0 : 0 ≤ (x8_17 : Int) := of_decide_eq_true (by first | (with_reducible assumption) | assumption)
                      have q105_0 : (x8_17 : Int) < 6 := of_decide_eq_true (by first | (with_reducible assumption) | assumption)
                      have p105_1 : 0 ≤ (ji13_ : Int) := of_decide_eq_true (by first | (with_reducible assumption) | assumption)
                      have q105_1 : (ji13_ : Int) < 6 := of_decide_eq_true (by first | (with_reducible assumption) | assumption)
                      have o105 : 6 + x8_17.toNat * 6 + ji13_.toNat < l0.length := (by have h_ : l0.length = 258 := HL0.out; rw [h_]; omega)
                      have hx105 := xcellI (HM.out.box 2 rfl) (6 + x8_17.toNat * 6 + ji13_.toNat) o105
                      have ho105 := Aside0.mk o105
                      clear o105
                      replace p105_0 := eq_true p105_0
                      replace q105_0 := eq_true q105_0
                      replace p105_1 := eq_true p105_1
                      replace q105_1 := eq_true q105_1
                      have p106_0 : 0 ≤ (x8_17 : Int) := of_decide_eq_true (by first | (with_reducible assumption) | assumption)
                      have q106_0 : (x8_17 : Int) < 6 := of_decide_eq_true (by first | (with_reducible assumption) | assumption)
                      have o106 : x8_17.toNat < l0.length := (by have h_ : l0.length = 258 := HL0.out; rw [h_]; omega)
                      have hx106 := xcellI (HM.out.box 2 rfl) (x8_17.toNat) o106
                      have ho106 := Aside0.mk o106
                      clear o106
                      replace p106_0 := eq_true p106_0
                      replace q106_0 := eq_true q106_0
                      have n_ := Aside0.mk (HM.out.step (below_drew1 (Below.refl wr.heap.size wr)))
                      clear HM
                      have HM := n_
                      clear n_
                      refine start_ (n := 19) (S := fun w' => (w'.cell? ⟨gb1, 6 + x8_17.toNat * 6 + ji13_.toNat, none⟩ = some (.int .i64 (l0.getD (6 + x8_17.toNat * 6 + ji13_.toNat) 0))) ∧ (w'.cell? ⟨gb1, x8_17.toNat, none⟩ = some (.int .i64 (l0.getD (x8_17.toNat) 0)))) (ds := [18]) #[false, false, false, false, false, false, false, false, false, false, false, false, false, false, false, false, false, false, false] (by kernel_rfl) rfl rfl (⟨xcellI (HM.out.box 2 rfl) (6 + x8_17.toNat * 6 + ji13_.toNat) ho105.out, xcellI (HM.out.box 2 rfl) (x8_17.toNat) ho106.out⟩) (fun hHeld => ?_)
                      generalize wr.drew = w24_ at HM hHeld ⊢
                      refine pure_ (i := 0) (N := some 30) (v := ?_) (a' := ?_) #[true, false, false, false, false, false, false, false, false, false, false, false, false, false, false, false, false, false, false] rfl rfl (by kernel_rfl) (fun _ _ _ h => h) (Or.inl ⟨by rfl, ?_⟩) ?_ ?_
                      rotate_left
                      · intro w'
                        go_simp
                        first | with_reducible rfl | (simp [Instr.field, asAgg, Go.part, run_underlying hu41, run_underlying hu42, run_underlying hu43, run_underlying hu45]; rfl) | rfl
                      rotate_left
                      · simp only [Act.put, List.setIfInBounds_toArray, List.set_cons_zero, List.set_cons_succ, i64_w, i32_w]
                        rfl
                      refine pure_ (i := 1) (N := some 31) (v := ?_) (a' := ?_) #[true, true, false, false, false, false, false, false, false, false, false, false, false, false, false, false, false, false, false] rfl rfl (by kernel_rfl) (fun _ _ _ h => h) (Or.inl ⟨by rfl, ?_⟩) ?_ ?_
                      rotate_left
                      · intro w'
                        go_simp
                        first | with_reducible rfl | (simp [Instr.field, asAgg, Go.part, run_underlying hu41, run_underlying hu42, run_underlying hu43, run_underlying hu45]; rfl) | rfl
                      rotate_left
                      · simp only [Act.put, List.setIfInBounds_toArray, List.set_cons_zero, List.set_cons_succ, i64_w, i32_w]
                        rfl
                      refine pure_ (i := 2) (N := some 32) (v := ?_) (a' := ?_) #[true, true, true, false, false, false, false, false, false, false, false, false, false, false, false, false, false, false, false] rfl rfl (by kernel_rfl) (fun _ _ _ h => h) (Or.inl ⟨by rfl, ?_⟩) ?_ ?_
                      rotate_left
                      · intro w'
                        go_simp
                        first | with_reducible rfl | (simp [Instr.field, asAgg, Go.part, run_underlying hu41, run_underlying hu42, run_underlying hu43, run_underlying hu45]; rfl) | rfl
                      rotate_left
                      · simp only [Act.put, List.setIfInBounds_toArray, List.set_cons_zero, List.set_cons_succ, i64_w, i32_w]
                        rfl
                      refine pure_ (i := 3) (N := some 33) (v := ?_) (a' := ?_) #[true, true, true, true, false, false, false, false, false, false, false, false, false, false, false, false, false, false, false] rfl rfl (by kernel_rfl) (fun _ _ _ h => h) (Or.inl ⟨by rfl, ?_⟩) ?_ ?_
                      rotate_left
                      · intro w'
                        go_simp
                        first | with_reducible rfl | (simp [Instr.field, asAgg, Go.part, run_underlying hu41, run_underlying hu42, run_underlying hu43, run_underlying hu45]; rfl) | rfl
                      rotate_left
                      · simp only [Act.put, List.setIfInBounds_toArray, List.set_cons_zero, List.set_cons_succ, i64_w, i32_w]
                        rfl
                      refine pure_ (i := 4) (N := some 34) (v := ?_) (a' := ?_) #[true, true, true, true, true, false, false, false, false, false, false, false, false, false, false, false, false, false, false] rfl rfl (by kernel_rfl) (fun _ _ _ h => h) (Or.inl ⟨by rfl, ?_⟩) ?_ ?_
                      rotate_left
                      · intro w'
                        go_simp
                        first | with_reducible rfl | (simp [Instr.field, asAgg, Go.part, run_underlying hu41, run_underlying hu42, run_underlying hu43, run_underlying hu45]; rfl) | rfl
                      rotate_left
                      · simp only [Act.put, List.setIfInBounds_toArray, List.set_cons_zero, List.set_cons_succ, i64_w, i32_w]
                        rfl
                      refine pure_ (i := 5) (N := some 35) (v := ?_) (a' := ?_) #[true, true, true, true, true, true, false, false, false, false, false, false, false, false, false, false, false, false, false] rfl rfl (by kernel_rfl) (fun _ _ _ h => h) (Or.inl ⟨by rfl, ?_⟩) ?_ ?_
                      rotate_left
                      · intro w'
                        go_simp
                        first | with_reducible rfl | (simp [Instr.field, asAgg, Go.part, run_underlying hu41, run_underlying hu42, run_underlying hu43, run_underlying hu45]; rfl) | rfl
                      rotate_left
                      · simp only [Act.put, List.setIfInBounds_toArray, List.set_cons_zero, List.set_cons_succ, i64_w, i32_w]
                        rfl
                      refine pure_ (i := 6) (N := some 36) (v := ?_) (a' := ?_) #[true, true, true, true, true, true, true, false, false, false, false, false, false, false, false, false, false, false, false] rfl rfl (by kernel_rfl) (fun _ _ _ h => h) (Or.inl ⟨by rfl, ?_⟩) ?_ ?_
                      rotate_left
                      · intro w'
                        go_simp
                        first | with_reducible rfl | (simp [Instr.field, asAgg, Go.part, run_underlying hu41, run_underlying hu42, run_underlying hu43, run_underlying hu45]; rfl) | rfl
                      rotate_left
                      · simp only [Act.put, List.setIfInBounds_toArray, List.set_cons_zero, List.set_cons_succ, i64_w, i32_w]
                        rfl
                      refine take_ (i := 7) (N := some 37) (v := ?_) (a' := ?_) #[true, true, true, true, true, true, true, true, false, false, false, false, false, false, false, false, false, false, false] rfl rfl (by kernel_rfl) (fun _ _ _ h => h) (Or.inl ⟨by rfl, ?_⟩) hHeld ?_ ?_
                      rotate_left
                      · intro w' s0
                        obtain ⟨s0_, s1_⟩ := s0
                        go_simp
                        first | with_reducible rfl | (simp [Instr.field, asAgg, Go.part, run_underlying hu41, run_underlying hu42, run_underlying hu43, run_underlying hu45]; rfl) | rfl
                      rotate_left
                      · simp only [Act.put, List.setIfInBounds_toArray, List.set_cons_zero, List.set_cons_succ, i64_w, i32_w]
                        rfl
                      refine pure_ (i := 8) (N := some 38) (v := ?_) (a' := ?_) #[true, true, true, true, true, true, true, true, true, false, false, false, false, false, false, false, false, false, false] rfl rfl (by kernel_rfl) (fun _ _ _ h => h) (Or.inl ⟨by rfl, ?_⟩) ?_ ?_
                      rotate_left
                      · intro w'
                        go_simp
                        first | with_reducible rfl | (simp [Instr.field, asAgg, Go.part, run_underlying hu41, run_underlying hu42, run_underlying hu43, run_underlying hu45]; rfl) | rfl
                      rotate_left
                      · simp only [Act.put, List.setIfInBounds_toArray, List.set_cons_zero, List.set_cons_succ, i64_w, i32_w]
                        rfl
                      refine pure_ (i := 9) (N := some 39) (v := ?_) (a' := ?_) #[true, true, true, true, true, true, true, true, true, true, false, false, false, false, false, false, false, false, false] rfl rfl (by kernel_rfl) (fun _ _ _ h => h) (Or.inl ⟨by rfl, ?_⟩) ?_ ?_
                      rotate_left
                      · intro w'
                        go_simp
                        first | with_reducible rfl | (simp [Instr.field, asAgg, Go.part, run_underlying hu41, run_underlying hu42, run_underlying hu43, run_underlying hu45]; rfl) | rfl
                      rotate_left
                      · simp only [Act.put, List.setIfInBounds_toArray, List.set_cons_zero, List.set_cons_succ, i64_w, i32_w]
                        rfl
                      refine pure_ (i := 10) (N := some 40) (v := ?_) (a' := ?_) #[true, true, true, true, true, true, true, true, true, true, true, false, false, false, false, false, false, false, false] rfl rfl (by kernel_rfl) (fun _ _ _ h => h) (Or.inl ⟨by rfl, ?_⟩) ?_ ?_
                      rotate_left
                      · intro w'
                        go_simp
                        first | with_reducible rfl | (simp [Instr.field, asAgg, Go.part, run_underlying hu41, run_underlying hu42, run_underlying hu43, run_underlying hu45]; rfl) | rfl
                      rotate_left
                      · simp only [Act.put, List.setIfInBounds_toArray, List.set_cons_zero, List.set_cons_succ, i64_w, i32_w]
                        rfl
                      refine pure_ (i := 11) (N := some 41) (v := ?_) (a' := ?_) #[true, true, true, true, true, true, true, true, true, true, true, true, false, false, false, false, false, false, false] rfl rfl (by kernel_rfl) (fun _ _ _ h => h) (Or.inl ⟨by rfl, ?_⟩) ?_ ?_
                      rotate_left
                      · intro w'
                        go_simp
                        first | with_reducible rfl | (simp [Instr.field, asAgg, Go.part, run_underlying hu41, run_underlying hu42, run_underlying hu43, run_underlying hu45]; rfl) | rfl
                      rotate_left
                      · simp only [Act.put, List.setIfInBounds_toArray, List.set_cons_zero, List.set_cons_succ, i64_w, i32_w]
                        rfl
                      refine take_ (i := 12) (N := some 42) (v := ?_) (a' := ?_) #[true, true, true, true, true, true, true, true, true, true, true, true, true, false, false, false, false, false, false] rfl rfl (by kernel_rfl) (fun _ _ _ h => h) (Or.inl ⟨by rfl, ?_⟩) hHeld ?_ ?_
                      rotate_left
                      · intro w' s0
                        obtain ⟨s0_, s1_⟩ := s0
                        go_simp
                        first | with_reducible rfl | (simp [Instr.field, asAgg, Go.part, run_underlying hu41, run_underlying hu42, run_underlying hu43, run_underlying hu45]; rfl) | rfl
                      rotate_left
                      · simp only [Act.put, List.setIfInBounds_toArray, List.set_cons_zero, List.set_cons_succ, i64_w, i32_w]
                        rfl
                      refine pure_ (i := 13) (N := some 43) (v := ?_) (a' := ?_) #[true, true, true, true, true, true, true, true, true, true, true, true, true, true, false, false, false, false, false] rfl rfl (by kernel_rfl) (fun _ _ _ h => h) (Or.inl ⟨by rfl, ?_⟩) ?_ ?_
                      rotate_left
                      · intro w'
                        go_simp
                        first | with_reducible rfl | (simp [Instr.field, asAgg, Go.part, run_underlying hu41, run_underlying hu42, run_underlying hu43, run_underlying hu45]; rfl) | rfl
                      rotate_left
                      · simp only [Act.put, List.setIfInBounds_toArray, List.set_cons_zero, List.set_cons_succ, i64_w, i32_w]
                        rfl
                      refine pure_ (i := 14) (N := some 44) (v := ?_) (a' := ?_) #[true, true, true, true, true, true, true, true, true, true, true, true, true, true, true, false, false, false, false] rfl rfl (by kernel_rfl) (fun _ _ _ h => h) (Or.inl ⟨by rfl, ?_⟩) ?_ ?_
                      rotate_left
                      · intro w'
                        go_simp
                        first | with_reducible rfl | (simp [Instr.field, asAgg, Go.part, run_underlying hu41, run_underlying hu42, run_underlying hu43, run_underlying hu45]; rfl) | rfl
                      rotate_left
                      · simp only [Act.put, List.setIfInBounds_toArray, List.set_cons_zero, List.set_cons_succ, i64_w, i32_w]
                        rfl
                      refine pure_ (i := 15) (N := some 45) (v := ?_) (a' := ?_) #[true, true, true, true, true, true, true, true, true, true, true, true, true, true, true, true, false, false, false] rfl rfl (by kernel_rfl) (fun _ _ _ h => h) (Or.inl ⟨by rfl, ?_⟩) ?_ ?_
                      rotate_left
                      · intro w'
                        go_simp
                        first | with_reducible rfl | (simp [Instr.field, asAgg, Go.part, run_underlying hu41, run_underlying hu42, run_underlying hu43, run_underlying hu45]; rfl) | rfl
                      rotate_left
                      · simp only [Act.put, List.setIfInBounds_toArray, List.set_cons_zero, List.set_cons_succ, i64_w, i32_w]
                        rfl
                      refine pure_ (i := 16) (N := some 46) (v := ?_) (a' := ?_) #[true, true, true, true, true, true, true, true, true, true, true, true, true, true, true, true, true, false, false] rfl rfl (by kernel_rfl) (fun _ _ _ h => h) (Or.inl ⟨by rfl, ?_⟩) ?_ ?_
                      rotate_left
                      · intro w'
                        go_simp
                        first | with_reducible rfl | (simp [Instr.field, asAgg, Go.part, run_underlying hu41, run_underlying hu42, run_underlying hu43, run_underlying hu45]; rfl) | rfl
                      rotate_left
                      · simp only [Act.put, List.setIfInBounds_toArray, List.set_cons_zero, List.set_cons_succ, i64_w, i32_w]
                        rfl
                      refine pure_ (i := 17) (N := some 47) (v := ?_) (a' := ?_) #[true, true, true, true, true, true, true, true, true, true, true, true, true, true, true, true, true, true, false] rfl rfl (by kernel_rfl) (fun _ _ _ h => h) (Or.inl ⟨by rfl, ?_⟩) ?_ ?_
                      rotate_left
                      · intro w'
                        go_simp
                        first | with_reducible rfl | (simp [Instr.field, asAgg, Go.part, run_underlying hu41, run_underlying hu42, run_underlying hu43, run_underlying hu45]; rfl) | rfl
                      rotate_left
                      · simp only [Act.put, List.setIfInBounds_toArray, List.set_cons_zero, List.set_cons_succ, i64_w, i32_w]
                        rfl
                      have p108_0 : 0 ≤ (x8_17 : Int) := of_decide_eq_true (by first | (with_reducible assumption) | assumption)
                      have q108_0 : (x8_17 : Int) < 6 := of_decide_eq_true (by first | (with_reducible assumption) | assumption)
                      have p108_1 : 0 ≤ (ji13_ : Int) := of_decide_eq_true (by first | (with_reducible assumption) | assumption)
                      have q108_1 : (ji13_ : Int) < 6 := of_decide_eq_true (by first | (with_reducible assumption) | assumption)
                      have o108 : 6 + x8_17.toNat * 6 + ji13_.toNat < m3_17.length := (by have h_ : m3_17.length = 258 := HLm3_17.out; rw [h_]; omega)
                      have hx108 := xcellI (HM.out.box 0 rfl) (6 + x8_17.toNat * 6 + ji13_.toNat) o108
                      clear o108
                      replace p108_0 := eq_true p108_0
                      replace q108_0 := eq_true q108_0
                      replace p108_1 := eq_true p108_1
                      replace q108_1 := eq_true q108_1
                      have hf108 := blk_frozen (HM.out.box 0 rfl) (6 + x8_17.toNat * 6 + ji13_.toNat)
                      refine last_ (i := 18) (N := none) #[true, true, true, true, true, true, true, true, true, true, true, true, true, true, true, true, true, true, true] rfl rfl (by kernel_rfl) (by decide) (fun K hK => ?_)
                      refine skip_ (w1 := w24_.setCell ⟨gb3, 6 + x8_17.toNat * 6 + ji13_.toNat, none⟩ (.int .i64 (wrap64 ((l0.getD (6 + x8_17.toNat * 6 + ji13_.toNat) 0) + (wrap64 ((-1) * (l0.getD (x8_17.toNat) 0))))))) (by rfl) rfl ?_ ?_
                      · first | (go_simp; done) | (go_simp; rfl)
                      generalize hw : w24_.setCell ⟨gb3, 6 + x8_17.toNat * 6 + ji13_.toNat, none⟩ (.int .i64 (wrap64 ((l0.getD (6 + x8_17.toNat * 6 + ji13_.toNat) 0) + (wrap64 ((-1) * (l0.getD (x8_17.toNat) 0)))))) = w25_
                      have n_ : Aside0 (MS w w25_ [.box gb3 45 (ics y107), .box gb2 45 (ics (List.replicate 258 0)), .box gb1 45 (ics l0)]) := ⟨by rw [← hw]; exact HM.out.setBox 0 rfl _ _ (by rw [ics_set, ← Ny107.out])⟩
                      clear HM hw
                      have HM := n_
                      clear n_
                      refine hK.out _ _ ?_
                      clear hK K
                      refine done_ (by kernel_rfl) ?_
                      have H := H'.out
                      clear H'
                      have H' := Aside0.mk H
                      clear H
                      go_wp2
                      go_loopg [9] k19_ (fun kq v9 w' => ∃ (x9_26 : Int) (m3_26 : List Int), v9 = .int .i64 x9_26 ∧ Aside0 (spec_l8Behind.l1 kq a1 ji13_ (-1) x8_17 x9_26 m3_26 l0 = some r) ∧ Aside0 (kq ≤ k19_) ∧ Aside0 (m3_26.length = 258) ∧ Aside0 (MS w w' [.box gb3 45 (ics m3_26), .box gb2 45 (ics (List.replicate 258 0)), .box gb1 45 (ics l0)]))
                      case atStart => exact ⟨(0), (y107), (by first | rfl | (simp; done) | (simp only [i64_w]; done) | (simp [i64_w]; done) | (simp [*]; done)), H', ⟨Nat.le_refl _⟩, ⟨(show y107.length = 258 from by rw [Ny107.out, List.length_set]; exact HLm3_17.out)⟩, HM⟩
                      case round =>
                        clear H'
                        clear HM
                        obtain ⟨x9_26, m3_26, rfl, HA, HK27_, HLm3_26, HM⟩ := hrel
                        cases gk with
                        | zero => exact absurd HA.out (by simp [spec_l8Behind.l1])
                        | succ k28_ =>
                          have H := HA.out
                          clear HA
                          simp only [spec_l8Behind.l1] at H
                          by_cases c29_ : x9_26 < 6
                          · rw [if_pos c29_] at H
                            have c29_b0 : decide (x9_26 < 6) = true := decide_eq_true c29_
                            clear c29_
                            by_cases c30_ : 0 ≤ x8_17
                            · rw [if_pos c30_] at H
                              have c30_b0 : decide (0 ≤ x8_17) = true := decide_eq_true c30_
                              clear c30_
                              by_cases c31_ : x8_17 < 6
                              · rw [if_pos c31_] at H
                                have c31_b0 : decide (x8_17 < 6) = true := decide_eq_true c31_
                                clear c31_
                                by_cases c32_ : 0 ≤ x9_26
                                · rw [if_pos c32_] at H
                                  have c32_b0 : decide (0 ≤ x9_26) = true := decide_eq_true c32_
                                  clear c32_
                                  by_cases c33_ : 0 ≤ ji13_
                                  · rw [if_pos c33_] at H
                                    have c33_b0 : decide (0 ≤ ji13_) = true := decide_eq_true c33_
                                    clear c33_
                                    by_cases c34_ : ji13_ < 6
                                    · rw [if_pos c34_] at H
                                      have c34_b0 : decide (ji13_ < 6) = true := decide_eq_true c34_
                                      clear c34_
                                      obtain ⟨y111, hy111⟩ : ∃ y_, y_ = (m3_26.set (42 + x8_17.toNat * 36 + x9_26.toNat * 6 + ji13_.toNat) (wrap64 ((l0.getD (42 + x8_17.toNat * 36 + x9_26.toNat * 6 + ji13_.toNat) 0) + (wrap64 ((-1) * (l0.getD (6 + x8_17.toNat * 6 + x9_26.toNat) 0)))))) := ⟨_, rfl⟩
                                      replace H : (spec_l8Behind.l1 k28_ a1 ji13_ (-1) x8_17 (wrap64 (x9_26 + 1)) y111 l0) = some r := by first | (rw [hy111]; with_reducible exact H) | (have H2_ := (Option.bind_some _ _).symm.trans H; rw [hy111]; with_reducible exact H2_) | (have H2_ := (Option.bind_some _ _).symm.trans H; with_reducible exact H2_) | with_reducible exact H | (rw [hy111]; exact H) | exact H
                                      have Ny111 := Aside0.mk hy111
                                      clear hy111
                                      have H' := Aside0.mk H
                                      clear H
                                      go_wp2
                                      have p109_0 : 0 ≤ (x8_17 : Int) := of_decide_eq_true (by first | (with_reducible assumption) | assumption)
                                      have q109_0 : (x8_17 : Int) < 6 := of_decide_eq_true (by first | (with_reducible assumption) | assumption)
                                      have p109_1 : 0 ≤ (x9_26 : Int) := of_decide_eq_true (by first | (with_reducible assumption) | assumption)
                                      have q109_1 : (x9_26 : Int) < 6 := of_decide_eq_true (by first | (with_reducible assumption) | assumption)
                                      have p109_2 : 0 ≤ (ji13_ : Int) := of_decide_eq_true (by first | (with_reducible assumption) | assumption)
                                      have q109_2 : (ji13_ : Int) < 6 := of_decide_eq_true (by first | (with_reducible assumption) | assumption)
                                      have o109 : 42 + x8_17.toNat * 36 + x9_26.toNat * 6 + ji13_.toNat < l0.length := (by have h_ : l0.length = 258 := HL0.out; rw [h_]; omega)
                                      have hx109 := xcellI (HM.out.box 2 rfl) (42 + x8_17.toNat * 36 + x9_26.toNat * 6 + ji13_.toNat) o109
                                      have ho109 := Aside0.mk o109
                                      clear o109
                                      replace p109_0 := eq_true p109_0
                                      replace q109_0 := eq_true q109_0
                                      replace p109_1 := eq_true p109_1
                                      replace q109_1 := eq_true q109_1
                                      replace p109_2 := eq_true p109_2
                                      replace q109_2 := eq_true q109_2
                                      have p110_0 : 0 ≤ (x8_17 : Int) := of_decide_eq_true (by first | (with_reducible assumption) | assumption)
                                      have q110_0 : (x8_17 : Int) < 6 := of_decide_eq_true (by first | (with_reducible assumption) | assumption)
                                      have p110_1 : 0 ≤ (x9_26 : Int) := of_decide_eq_true (by first | (with_reducible assumption) | assumption)
                                      have q110_1 : (x9_26 : Int) < 6 := of_decide_eq_true (by first | (with_reducible assumption) | assumption)
                                      have o110 : 6 + x8_17.toNat * 6 + x9_26.toNat < l0.length := (by have h_ : l0.length = 258 := HL0.out; rw [h_]; omega)
                                      have hx110 := xcellI (HM.out.box 2 rfl) (6 + x8_17.toNat * 6 + x9_26.toNat) o110
                                      have ho110 := Aside0.mk o110
                                      clear o110
                                      replace p110_0 := eq_true p110_0
                                      replace q110_0 := eq_true q110_0
                                      replace p110_1 := eq_true p110_1
                                      replace q110_1 := eq_true q110_1
                                      have n_ := Aside0.mk (HM.out.step (below_drew1 (Below.refl wr.heap.size wr)))
                                      clear HM
                                      have HM := n_
                                      clear n_
                                      refine start_ (n := 25) (S := fun w' => (w'.cell? ⟨gb1, 42 + x8_17.toNat * 36 + x9_26.toNat * 6 + ji13_.toNat, none⟩ = some (.int .i64 (l0.getD (42 + x8_17.toNat * 36 + x9_26.toNat * 6 + ji13_.toNat) 0))) ∧ (w'.cell? ⟨gb1, 6 + x8_17.toNat * 6 + x9_26.toNat, none⟩ = some (.int .i64 (l0.getD (6 + x8_17.toNat * 6 + x9_26.toNat) 0)))) (ds := [24]) #[false, false, false, false, false, false, false, false, false, false, false, false, false, false, false, false, false, false, false, false, false, false, false, false, false] (by kernel_rfl) rfl rfl (⟨xcellI (HM.out.box 2 rfl) (42 + x8_17.toNat * 36 + x9_26.toNat * 6 + ji13_.toNat) ho109.out, xcellI (HM.out.box 2 rfl) (6 + x8_17.toNat * 6 + x9_26.toNat) ho110.out⟩) (fun hHeld => ?_)
                                      generalize wr.drew = w35_ at HM hHeld ⊢
                                      refine pure_ (i := 0) (N := some 52) (v := ?_) (a' := ?_) #[true, false, false, false, false, false, false, false, false, false, false, false, false, false, false, false, false, false, false, false, false, false, false, false, false] rfl rfl (by kernel_rfl) (fun _ _ _ h => h) (Or.inl ⟨by rfl, ?_⟩) ?_ ?_
                                      rotate_left
                                      · intro w'
                                        go_simp
                                        first | with_reducible rfl | (simp [Instr.field, asAgg, Go.part, run_underlying hu41, run_underlying hu42, run_underlying hu43, run_underlying hu45]; rfl) | rfl
                                      rotate_left
                                      · simp only [Act.put, List.setIfInBounds_toArray, List.set_cons_zero, List.set_cons_succ, i64_w, i32_w]
                                        rfl
                                      refine pure_ (i := 1) (N := some 53) (v := ?_) (a' := ?_) #[true, true, false, false, false, false, false, false, false, false, false, false, false, false, false, false, false, false, false, false, false, false, false, false, false] rfl rfl (by kernel_rfl) (fun _ _ _ h => h) (Or.inl ⟨by rfl, ?_⟩) ?_ ?_
                                      rotate_left
                                      · intro w'
                                        go_simp
                                        first | with_reducible rfl | (simp [Instr.field, asAgg, Go.part, run_underlying hu41, run_underlying hu42, run_underlying hu43, run_underlying hu45]; rfl) | rfl
                                      rotate_left
                                      · simp only [Act.put, List.setIfInBounds_toArray, List.set_cons_zero, List.set_cons_succ, i64_w, i32_w]
                                        rfl
                                      refine pure_ (i := 2) (N := some 54) (v := ?_) (a' := ?_) #[true, true, true, false, false, false, false, false, false, false, false, false, false, false, false, false, false, false, false, false, false, false, false, false, false] rfl rfl (by kernel_rfl) (fun _ _ _ h => h) (Or.inl ⟨by rfl, ?_⟩) ?_ ?_
                                      rotate_left
                                      · intro w'
                                        go_simp
                                        first | with_reducible rfl | (simp [Instr.field, asAgg, Go.part, run_underlying hu41, run_underlying hu42, run_underlying hu43, run_underlying hu45]; rfl) | rfl
                                      rotate_left
                                      · simp only [Act.put, List.setIfInBounds_toArray, List.set_cons_zero, List.set_cons_succ, i64_w, i32_w]
                                        rfl
                                      refine pure_ (i := 3) (N := some 55) (v := ?_) (a' := ?_) #[true, true, true, true, false, false, false, false, false, false, false, false, false, false, false, false, false, false, false, false, false, false, false, false, false] rfl rfl (by kernel_rfl) (fun _ _ _ h => h) (Or.inl ⟨by rfl, ?_⟩) ?_ ?_
                                      rotate_left
                                      · intro w'
                                        go_simp
                                        first | with_reducible rfl | (simp [Instr.field, asAgg, Go.part, run_underlying hu41, run_underlying hu42, run_underlying hu43, run_underlying hu45]; rfl) | rfl
                                      rotate_left
                                      · simp only [Act.put, List.setIfInBounds_toArray, List.set_cons_zero, List.set_cons_succ, i64_w, i32_w]
                                        rfl
                                      refine pure_ (i := 4) (N := some 56) (v := ?_) (a' := ?_) #[true, true, true, true, true, false, false, false, false, false, false, false, false, false, false, false, false, false, false, false, false, false, false, false, false] rfl rfl (by kernel_rfl) (fun _ _ _ h => h) (Or.inl ⟨by rfl, ?_⟩) ?_ ?_
                                      rotate_left
                                      · intro w'
                                        go_simp
                                        first | with_reducible rfl | (simp [Instr.field, asAgg, Go.part, run_underlying hu41, run_underlying hu42, run_underlying hu43, run_underlying hu45]; rfl) | rfl
                                      rotate_left
                                      · simp only [Act.put, List.setIfInBounds_toArray, List.set_cons_zero, List.set_cons_succ, i64_w, i32_w]
                                        rfl
                                      refine pure_ (i := 5) (N := some 57) (v := ?_) (a' := ?_) #[true, true, true, true, true, true, false, false, false, false, false, false, false, false, false, false, false, false, false, false, false, false, false, false, false] rfl rfl (by kernel_rfl) (fun _ _ _ h => h) (Or.inl ⟨by rfl, ?_⟩) ?_ ?_
                                      rotate_left
                                      · intro w'
                                        go_simp
                                        first | with_reducible rfl | (simp [Instr.field, asAgg, Go.part, run_underlying hu41, run_underlying hu42, run_underlying hu43, run_underlying hu45]; rfl) | rfl
                                      rotate_left
                                      · simp only [Act.put, List.setIfInBounds_toArray, List.set_cons_zero, List.set_cons_succ, i64_w, i32_w]
                                        rfl
                                      refine pure_ (i := 6) (N := some 58) (v := ?_) (a' := ?_) #[true, true, true, true, true, true, true, false, false, false, false, false, false, false, false, false, false, false, false, false, false, false, false, false, false] rfl rfl (by kernel_rfl) (fun _ _ _ h => h) (Or.inl ⟨by rfl, ?_⟩) ?_ ?_
                                      rotate_left
                                      · intro w'
                                        go_simp
                                        first | with_reducible rfl | (simp [Instr.field, asAgg, Go.part, run_underlying hu41, run_underlying hu42, run_underlying hu43, run_underlying hu45]; rfl) | rfl
                                      rotate_left
                                      · simp only [Act.put, List.setIfInBounds_toArray, List.set_cons_zero, List.set_cons_succ, i64_w, i32_w]
                                        rfl
                                      refine pure_ (i := 7) (N := some 59) (v := ?_) (a' := ?_) #[true, true, true, true, true, true, true, true, false, false, false, false, false, false, false, false, false, false, false, false, false, false, false, false, false] rfl rfl (by kernel_rfl) (fun _ _ _ h => h) (Or.inl ⟨by rfl, ?_⟩) ?_ ?_
                                      rotate_left
                                      · intro w'
                                        go_simp
                                        first | with_reducible rfl | (simp [Instr.field, asAgg, Go.part, run_underlying hu41, run_underlying hu42, run_underlying hu43, run_underlying hu45]; rfl) | rfl
                                      rotate_left
                                      · simp only [Act.put, List.setIfInBounds_toArray, List.set_cons_zero, List.set_cons_succ, i64_w, i32_w]
                                        rfl
                                      refine pure_ (i := 8) (N := some 60) (v := ?_) (a' := ?_) #[true, true, true, true, true, true, true, true, true, false, false, false, false, false, false, false, false, false, false, false, false, false, false, false, false] rfl rfl (by kernel_rfl) (fun _ _ _ h => h) (Or.inl ⟨by rfl, ?_⟩) ?_ ?_
                                      rotate_left
                                      · intro w'
                                        go_simp
                                        first | with_reducible rfl | (simp [Instr.field, asAgg, Go.part, run_underlying hu41, run_underlying hu42, run_underlying hu43, run_underlying hu45]; rfl) | rfl
                                      rotate_left
                                      · simp only [Act.put, List.setIfInBounds_toArray, List.set_cons_zero, List.set_cons_succ, i64_w, i32_w]
                                        rfl
                                      refine pure_ (i := 9) (N := some 61) (v := ?_) (a' := ?_) #[true, true, true, true, true, true, true, true, true, true, false, false, false, false, false, false, false, false, false, false, false, false, false, false, false] rfl rfl (by kernel_rfl) (fun _ _ _ h => h) (Or.inl ⟨by rfl, ?_⟩) ?_ ?_
                                      rotate_left
                                      · intro w'
                                        go_simp
                                        first | with_reducible rfl | (simp [Instr.field, asAgg, Go.part, run_underlying hu41, run_underlying hu42, run_underlying hu43, run_underlying hu45]; rfl) | rfl
                                      rotate_left
                                      · simp only [Act.put, List.setIfInBounds_toArray, List.set_cons_zero, List.set_cons_succ, i64_w, i32_w]
                                        rfl
                                      refine take_ (i := 10) (N := some 62) (v := ?_) (a' := ?_) #[true, true, true, true, true, true, true, true, true, true, true, false, false, false, false, false, false, false, false, false, false, false, false, false, false] rfl rfl (by kernel_rfl) (fun _ _ _ h => h) (Or.inl ⟨by rfl, ?_⟩) hHeld ?_ ?_
                                      rotate_left
                                      · intro w' s0
                                        obtain ⟨s0_, s1_⟩ := s0
                                        go_simp
                                        first | with_reducible rfl | (simp [Instr.field, asAgg, Go.part, run_underlying hu41, run_underlying hu42, run_underlying hu43, run_underlying hu45]; rfl) | rfl
                                      rotate_left
                                      · simp only [Act.put, List.setIfInBounds_toArray, List.set_cons_zero, List.set_cons_succ, i64_w, i32_w]
                                        rfl
                                      refine pure_ (i := 11) (N := some 63) (v := ?_) (a' := ?_) #[true, true, true, true, true, true, true, true, true, true, true, true, false, false, false, false, false, false, false, false, false, false, false, false, false] rfl rfl (by kernel_rfl) (fun _ _ _ h => h) (Or.inl ⟨by rfl, ?_⟩) ?_ ?_
                                      rotate_left
                                      · intro w'
                                        go_simp
                                        first | with_reducible rfl | (simp [Instr.field, asAgg, Go.part, run_underlying hu41, run_underlying hu42, run_underlying hu43, run_underlying hu45]; rfl) | rfl
                                      rotate_left
                                      · simp only [Act.put, List.setIfInBounds_toArray, List.set_cons_zero, List.set_cons_succ, i64_w, i32_w]
                                        rfl
                                      refine pure_ (i := 12) (N := some 64) (v := ?_) (a' := ?_) #[true, true, true, true, true, true, true, true, true, true, true, true, true, false, false, false, false, false, false, false, false, false, false, false, false] rfl rfl (by kernel_rfl) (fun _ _ _ h => h) (Or.inl ⟨by rfl, ?_⟩) ?_ ?_
                                      rotate_left
                                      · intro w'
                                        go_simp
                                        first | with_reducible rfl | (simp [Instr.field, asAgg, Go.part, run_underlying hu41, run_underlying hu42, run_underlying hu43, run_underlying hu45]; rfl) | rfl
                                      rotate_left
                                      · simp only [Act.put, List.setIfInBounds_toArray, List.set_cons_zero, List.set_cons_succ, i64_w, i32_w]
                                        rfl
                                      refine pure_ (i := 13) (N := some 65) (v := ?_) (a' := ?_) #[true, true, true, true, true, true, true, true, true, true, true, true, true, true, false, false, false, false, false, false, false, false, false, false, false] rfl rfl (by kernel_rfl) (fun _ _ _ h => h) (Or.inl ⟨by rfl, ?_⟩) ?_ ?_
                                      rotate_left
                                      · intro w'
                                        go_simp
                                        first | with_reducible rfl | (simp [Instr.field, asAgg, Go.part, run_underlying hu41, run_underlying hu42, run_underlying hu43, run_underlying hu45]; rfl) | rfl
                                      rotate_left
                                      · simp only [Act.put, List.setIfInBounds_toArray, List.set_cons_zero, List.set_cons_succ, i64_w, i32_w]
                                        rfl
                                      refine pure_ (i := 14) (N := some 66) (v := ?_) (a' := ?_) #[true, true, true, true, true, true, true, true, true, true, true, true, true, true, true, false, false, false, false, false, false, false, false, false, false] rfl rfl (by kernel_rfl) (fun _ _ _ h => h) (Or.inl ⟨by rfl, ?_⟩) ?_ ?_
                                      rotate_left
                                      · intro w'
                                        go_simp
                                        first | with_reducible rfl | (simp [Instr.field, asAgg, Go.part, run_underlying hu41, run_underlying hu42, run_underlying hu43, run_underlying hu45]; rfl) | rfl
                                      rotate_left
                                      · simp only [Act.put, List.setIfInBounds_toArray, List.set_cons_zero, List.set_cons_succ, i64_w, i32_w]
                                        rfl
                                      refine pure_ (i := 15) (N := some 67) (v := ?_) (a' := ?_) #[true, true, true, true, true, true, true, true, true, true, true, true, true, true, true, true, false, false, false, false, false, false, false, false, false] rfl rfl (by kernel_rfl) (fun _ _ _ h => h) (Or.inl ⟨by rfl, ?_⟩) ?_ ?_
                                      rotate_left
                                      · intro w'
                                        go_simp
                                        first | with_reducible rfl | (simp [Instr.field, asAgg, Go.part, run_underlying hu41, run_underlying hu42, run_underlying hu43, run_underlying hu45]; rfl) | rfl
                                      rotate_left
                                      · simp only [Act.put, List.setIfInBounds_toArray, List.set_cons_zero, List.set_cons_succ, i64_w, i32_w]
                                        rfl
                                      refine pure_ (i := 16) (N := some 68) (v := ?_) (a' := ?_) #[true, true, true, true, true, true, true, true, true, true, true, true, true, true, true, true, true, false, false, false, false, false, false, false, false] rfl rfl (by kernel_rfl) (fun _ _ _ h => h) (Or.inl ⟨by rfl, ?_⟩) ?_ ?_
                                      rotate_left
                                      · intro w'
                                        go_simp
                                        first | with_reducible rfl | (simp [Instr.field, asAgg, Go.part, run_underlying hu41, run_underlying hu42, run_underlying hu43, run_underlying hu45]; rfl) | rfl
                                      rotate_left
                                      · simp only [Act.put, List.setIfInBounds_toArray, List.set_cons_zero, List.set_cons_succ, i64_w, i32_w]
                                        rfl
                                      refine take_ (i := 17) (N := some 69) (v := ?_) (a' := ?_) #[true, true, true, true, true, true, true, true, true, true, true, true, true, true, true, true, true, true, false, false, false, false, false, false, false] rfl rfl (by kernel_rfl) (fun _ _ _ h => h) (Or.inl ⟨by rfl, ?_⟩) hHeld ?_ ?_
                                      rotate_left
                                      · intro w' s0
                                        obtain ⟨s0_, s1_⟩ := s0
                                        go_simp
                                        first | with_reducible rfl | (simp [Instr.field, asAgg, Go.part, run_underlying hu41, run_underlying hu42, run_underlying hu43, run_underlying hu45]; rfl) | rfl
                                      rotate_left
                                      · simp only [Act.put, List.setIfInBounds_toArray, List.set_cons_zero, List.set_cons_succ, i64_w, i32_w]
                                        rfl
                                      refine pure_ (i := 18) (N := some 70) (v := ?_) (a' := ?_) #[true, true, true, true, true, true, true, true, true, true, true, true, true, true, true, true, true, true, true, false, false, false, false, false, false] rfl rfl (by kernel_rfl) (fun _ _ _ h => h) (Or.inl ⟨by rfl, ?_⟩) ?_ ?_
                                      rotate_left
                                      · intro w'
                                        go_simp
                                        first | with_reducible rfl | (simp [Instr.field, asAgg, Go.part, run_underlying hu41, run_underlying hu42, run_underlying hu43, run_underlying hu45]; rfl) | rfl
                                      rotate_left
                                      · simp only [Act.put, List.setIfInBounds_toArray, List.set_cons_zero, List.set_cons_succ, i64_w, i32_w]
                                        rfl
                                      refine pure_ (i := 19) (N := some 71) (v := ?_) (a' := ?_) #[true, true, true, true, true, true, true, true, true, true, true, true, true, true, true, true, true, true, true, true, false, false, false, false, false] rfl rfl (by kernel_rfl) (fun _ _ _ h => h) (Or.inl ⟨by rfl, ?_⟩) ?_ ?_
                                      rotate_left
                                      · intro w'
                                        go_simp
                                        first | with_reducible rfl | (simp [Instr.field, asAgg, Go.part, run_underlying hu41, run_underlying hu42, run_underlying hu43, run_underlying hu45]; rfl) | rfl
                                      rotate_left
                                      · simp only [Act.put, List.setIfInBounds_toArray, List.set_cons_zero, List.set_cons_succ, i64_w, i32_w]
                                        rfl
                                      refine pure_ (i := 20) (N := some 72) (v := ?_) (a' := ?_) #[true, true, true, true, true, true, true, true, true, true, true, true, true, true, true, true, true, true, true, true, true, false, false, false, false] rfl rfl (by kernel_rfl) (fun _ _ _ h => h) (Or.inl ⟨by rfl, ?_⟩) ?_ ?_
                                      rotate_left
                                      · intro w'
                                        go_simp
                                        first | with_reducible rfl | (simp [Instr.field, asAgg, Go.part, run_underlying hu41, run_underlying hu42, run_underlying hu43, run_underlying hu45]; rfl) | rfl
                                      rotate_left
                                      · simp only [Act.put, List.setIfInBounds_toArray, List.set_cons_zero, List.set_cons_succ, i64_w, i32_w]
                                        rfl
                                      refine pure_ (i := 21) (N := some 73) (v := ?_) (a' := ?_) #[true, true, true, true, true, true, true, true, true, true, true, true, true, true, true, true, true, true, true, true, true, true, false, false, false] rfl rfl (by kernel_rfl) (fun _ _ _ h => h) (Or.inl ⟨by rfl, ?_⟩) ?_ ?_
                                      rotate_left
                                      · intro w'
                                        go_simp
                                        first | with_reducible rfl | (simp [Instr.field, asAgg, Go.part, run_underlying hu41, run_underlying hu42, run_underlying hu43, run_underlying hu45]; rfl) | rfl
                                      rotate_left
                                      · simp only [Act.put, List.setIfInBounds_toArray, List.set_cons_zero, List.set_cons_succ, i64_w, i32_w]
                                        rfl
                                      refine pure_ (i := 22) (N := some 74) (v := ?_) (a' := ?_) #[true, true, true, true, true, true, true, true, true, true, true, true, true, true, true, true, true, true, true, true, true, true, true, false, false] rfl rfl (by kernel_rfl) (fun _ _ _ h => h) (Or.inl ⟨by rfl, ?_⟩) ?_ ?_
                                      rotate_left
                                      · intro w'
                                        go_simp
                                        first | with_reducible rfl | (simp [Instr.field, asAgg, Go.part, run_underlying hu41, run_underlying hu42, run_underlying hu43, run_underlying hu45]; rfl) | rfl
                                      rotate_left
                                      · simp only [Act.put, List.setIfInBounds_toArray, List.set_cons_zero, List.set_cons_succ, i64_w, i32_w]
                                        rfl
                                      refine pure_ (i := 23) (N := some 75) (v := ?_) (a' := ?_) #[true, true, true, true, true, true, true, true, true, true, true, true, true, true, true, true, true, true, true, true, true, true, true, true, false] rfl rfl (by kernel_rfl) (fun _ _ _ h => h) (Or.inl ⟨by rfl, ?_⟩) ?_ ?_
                                      rotate_left
                                      · intro w'
                                        go_simp
                                        first | with_reducible rfl | (simp [Instr.field, asAgg, Go.part, run_underlying hu41, run_underlying hu42, run_underlying hu43, run_underlying hu45]; rfl) | rfl
                                      rotate_left
                                      · simp only [Act.put, List.setIfInBounds_toArray, List.set_cons_zero, List.set_cons_succ, i64_w, i32_w]
                                        rfl
                                      have p112_0 : 0 ≤ (x8_17 : Int) := of_decide_eq_true (by first | (with_reducible assumption) | assumption)
                                      have q112_0 : (x8_17 : Int) < 6 := of_decide_eq_true (by first | (with_reducible assumption) | assumption)
                                      have p112_1 : 0 ≤ (x9_26 : Int) := of_decide_eq_true (by first | (with_reducible assumption) | assumption)
                                      have q112_1 : (x9_26 : Int) < 6 := of_decide_eq_true (by first | (with_reducible assumption) | assumption)
                                      have p112_2 : 0 ≤ (ji13_ : Int) := of_decide_eq_true (by first | (with_reducible assumption) | assumption)
                                      have q112_2 : (ji13_ : Int) < 6 := of_decide_eq_true (by first | (with_reducible assumption) | assumption)
                                      have o112 : 42 + x8_17.toNat * 36 + x9_26.toNat * 6 + ji13_.toNat < m3_26.length := (by have h_ : m3_26.length = 258 := HLm3_26.out; rw [h_]; omega)
                                      have hx112 := xcellI (HM.out.box 0 rfl) (42 + x8_17.toNat * 36 + x9_26.toNat * 6 + ji13_.toNat) o112
                                      clear o112
                                      replace p112_0 := eq_true p112_0
                                      replace q112_0 := eq_true q112_0
                                      replace p112_1 := eq_true p112_1
                                      replace q112_1 := eq_true q112_1
                                      replace p112_2 := eq_true p112_2
                                      replace q112_2 := eq_true q112_2
                                      have hf112 := blk_frozen (HM.out.box 0 rfl) (42 + x8_17.toNat * 36 + x9_26.toNat * 6 + ji13_.toNat)
                                      refine last_ (i := 24) (N := none) #[true, true, true, true, true, true, true, true, true, true, true, true, true, true, true, true, true, true, true, true, true, true, true, true, true] rfl rfl (by kernel_rfl) (by decide) (fun K hK => ?_)
                                      refine skip_ (w1 := w35_.setCell ⟨gb3, 42 + x8_17.toNat * 36 + x9_26.toNat * 6 + ji13_.toNat, none⟩ (.int .i64 (wrap64 ((l0.getD (42 + x8_17.toNat * 36 + x9_26.toNat * 6 + ji13_.toNat) 0) + (wrap64 ((-1) * (l0.getD (6 + x8_17.toNat * 6 + x9_26.toNat) 0))))))) (by rfl) rfl ?_ ?_
                                      · first | (go_simp; done) | (go_simp; rfl)
                                      generalize hw : w35_.setCell ⟨gb3, 42 + x8_17.toNat * 36 + x9_26.toNat * 6 + ji13_.toNat, none⟩ (.int .i64 (wrap64 ((l0.getD (42 + x8_17.toNat * 36 + x9_26.toNat * 6 + ji13_.toNat) 0) + (wrap64 ((-1) * (l0.getD (6 + x8_17.toNat * 6 + x9_26.toNat) 0)))))) = w36_
                                      have n_ : Aside0 (MS w w36_ [.box gb3 45 (ics y111), .box gb2 45 (ics (List.replicate 258 0)), .box gb1 45 (ics l0)]) := ⟨by rw [← hw]; exact HM.out.setBox 0 rfl _ _ (by rw [ics_set, ← Ny111.out])⟩
                                      clear HM hw
                                      have HM := n_
                                      clear n_
                                      refine hK.out _ _ ?_
                                      clear hK K
                                      refine done_ (by kernel_rfl) ?_
                                      have H := H'.out
                                      clear H'
                                      have H' := Aside0.mk H
                                      clear H
                                      go_wp2
                                      go_roundg k28_
                                      case measure => have hHK18__ := HK18_.out; have hHK27__ := HK27_.out; omega
                                      case rel => exact ⟨(wrap64 (x9_26 + 1)), (y111), (by first | rfl | (simp; done) | (simp only [i64_w]; done) | (simp [i64_w]; done) | (simp [*]; done)), H', ⟨by have hHK18__ := HK18_.out; have hHK27__ := HK27_.out; omega⟩, ⟨(show y111.length = 258 from by rw [Ny111.out, List.length_set]; exact HLm3_26.out)⟩, HM⟩
                                    · rw [if_neg c34_] at H
                                      have c34_b0 : decide (ji13_ < 6) = false := decide_eq_false c34_
                                      clear c34_
                                      exact absurd H (by simp)
                                  · rw [if_neg c33_] at H
                                    have c33_b0 : decide (0 ≤ ji13_) = false := decide_eq_false c33_
                                    clear c33_
                                    exact absurd H (by simp)
                                · rw [if_neg c32_] at H
                                  have c32_b0 : decide (0 ≤ x9_26) = false := decide_eq_false c32_
                                  clear c32_
                                  exact absurd H (by simp)
                              · rw [if_neg c31_] at H
                                have c31_b0 : decide (x8_17 < 6) = false := decide_eq_false c31_
                                clear c31_
                                exact absurd H (by simp)
                            · rw [if_neg c30_] at H
                              have c30_b0 : decide (0 ≤ x8_17) = false := decide_eq_false c30_
                              clear c30_
                              exact absurd H (by simp)
                          · rw [if_neg c29_] at H
                            have c29_b0 : decide (x9_26 < 6) = false := decide_eq_false c29_
                            clear c29_
                            have H' := Aside0.mk H
                            clear H
                            go_wp2
                            go_roundg k28_
                            case measure => have hHK18__ := HK18_.out; have hHK27__ := HK27_.out; omega
                            case rel => exact ⟨(wrap64 (x8_17 + 1)), (m3_26), (by first | rfl | (simp; done) | (simp only [i64_w]; done) | (simp [i64_w]; done) | (simp [*]; done)), H', ⟨by have hHK18__ := HK18_.out; have hHK27__ := HK27_.out; omega⟩, ⟨HLm3_26.out⟩, HM⟩
                    · rw [if_neg c23_] at H
                      have c23_b0 : decide (ji13_ < 6) = false := decide_eq_false c23_
                      clear c23_
                      exact absurd H (by simp)
                  · rw [if_neg c22_] at H
                    have c22_b0 : decide (0 ≤ ji13_) = false := decide_eq_false c22_
                    clear c22_
                    exact absurd H (by simp)
                · rw [if_neg c21_] at H
                  have c21_b0 : decide (0 ≤ x8_17) = false := decide_eq_false c21_
                  clear c21_
                  exact absurd H (by simp)
              · rw [if_neg c20_] at H
                have c20_b0 : decide (x8_17 < 6) = false := decide_eq_false c20_
                clear c20_
                rw [if_pos (show (a1 < 0) from by have h_ := KNc12_.out; first | exact h_ | omega)] at H
                by_cases c37_ : 0 ≤ ji13_
                · rw [if_pos c37_] at H
                  have c37_b0 : decide (0 ≤ ji13_) = true := decide_eq_true c37_
                  clear c37_
                  by_cases c38_ : ji13_ < 6
                  · rw [if_pos c38_] at H
                    have c38_b0 : decide (ji13_ < 6) = true := decide_eq_true c38_
                    clear c38_
                    obtain ⟨y114, hy114⟩ : ∃ y_, y_ = (m3_17.set (6 + ji13_.toNat * 6 + ji13_.toNat) (wrap64 ((m3_17.getD (6 + ji13_.toNat * 6 + ji13_.toNat) 0) + 1))) := ⟨_, rfl⟩
                    replace H : (spec_l8Behind.l2 k19_ ji13_ 0 y114 l0) = some r := by first | (rw [hy114]; with_reducible exact H) | (have H2_ := (Option.bind_some _ _).symm.trans H; rw [hy114]; with_reducible exact H2_) | (have H2_ := (Option.bind_some _ _).symm.trans H; with_reducible exact H2_) | with_reducible exact H | (rw [hy114]; exact H) | exact H
                    have Ny114 := Aside0.mk hy114
                    clear hy114
                    have H' := Aside0.mk H
                    clear H
                    go_wp2
                    have p113_0 : 0 ≤ (ji13_ : Int) := of_decide_eq_true (by first | (with_reducible assumption) | assumption)
                    have q113_0 : (ji13_ : Int) < 6 := of_decide_eq_true (by first | (with_reducible assumption) | assumption)
                    have p113_1 : 0 ≤ (ji13_ : Int) := of_decide_eq_true (by first | (with_reducible assumption) | assumption)
                    have q113_1 : (ji13_ : Int) < 6 := of_decide_eq_true (by first | (with_reducible assumption) | assumption)
                    have o113 : 6 + ji13_.toNat * 6 + ji13_.toNat < m3_17.length := (by have h_ : m3_17.length = 258 := HLm3_17.out; rw [h_]; omega)
                    have hx113 := xcellI (HM.out.box 0 rfl) (6 + ji13_.toNat * 6 + ji13_.toNat) o113
                    have ho113 := Aside0.mk o113
                    clear o113
                    replace p113_0 := eq_true p113_0
                    replace q113_0 := eq_true q113_0
                    replace p113_1 := eq_true p113_1
                    replace q113_1 := eq_true q113_1
                    have n_ := Aside0.mk (HM.out.step (below_drew1 (Below.refl wr.heap.size wr)))
                    clear HM
                    have HM := n_
                    clear n_
                    refine start_ (n := 13) (S := fun w' => (w'.cell? ⟨gb3, 6 + ji13_.toNat * 6 + ji13_.toNat, none⟩ = some (.int .i64 (m3_17.getD (6 + ji13_.toNat * 6 + ji13_.toNat) 0)))) (ds := [12]) #[false, false, false, false, false, false, false, false, false, false, false, false, false] (by kernel_rfl) rfl rfl (xcellI (HM.out.box 0 rfl) (6 + ji13_.toNat * 6 + ji13_.toNat) ho113.out) (fun hHeld => ?_)
                    generalize wr.drew = w39_ at HM hHeld ⊢
                    refine pure_ (i := 0) (N := some 78) (v := ?_) (a' := ?_) #[true, false, false, false, false, false, false, false, false, false, false, false, false] rfl rfl (by kernel_rfl) (fun _ _ _ h => h) (Or.inl ⟨by rfl, ?_⟩) ?_ ?_
                    rotate_left
                    · intro w'
                      go_simp
                      first | with_reducible rfl | (simp [Instr.field, asAgg, Go.part, run_underlying hu41, run_underlying hu42, run_underlying hu43, run_underlying hu45]; rfl) | rfl
                    rotate_left
                    · simp only [Act.put, List.setIfInBounds_toArray, List.set_cons_zero, List.set_cons_succ, i64_w, i32_w]
                      rfl
                    refine pure_ (i := 1) (N := some 79) (v := ?_) (a' := ?_) #[true, true, false, false, false, false, false, false, false, false, false, false, false] rfl rfl (by kernel_rfl) (fun _ _ _ h => h) (Or.inl ⟨by rfl, ?_⟩) ?_ ?_
                    rotate_left
                    · intro w'
                      go_simp
                      first | with_reducible rfl | (simp [Instr.field, asAgg, Go.part, run_underlying hu41, run_underlying hu42, run_underlying hu43, run_underlying hu45]; rfl) | rfl
                    rotate_left
                    · simp only [Act.put, List.setIfInBounds_toArray, List.set_cons_zero, List.set_cons_succ, i64_w, i32_w]
                      rfl
                    refine pure_ (i := 2) (N := some 80) (v := ?_) (a' := ?_) #[true, true, true, false, false, false, false, false, false, false, false, false, false] rfl rfl (by kernel_rfl) (fun _ _ _ h => h) (Or.inl ⟨by rfl, ?_⟩) ?_ ?_
                    rotate_left
                    · intro w'
                      go_simp
                      first | with_reducible rfl | (simp [Instr.field, asAgg, Go.part, run_underlying hu41, run_underlying hu42, run_underlying hu43, run_underlying hu45]; rfl) | rfl
                    rotate_left
                    · simp only [Act.put, List.setIfInBounds_toArray, List.set_cons_zero, List.set_cons_succ, i64_w, i32_w]
                      rfl
                    refine pure_ (i := 3) (N := some 81) (v := ?_) (a' := ?_) #[true, true, true, true, false, false, false, false, false, false, false, false, false] rfl rfl (by kernel_rfl) (fun _ _ _ h => h) (Or.inl ⟨by rfl, ?_⟩) ?_ ?_
                    rotate_left
                    · intro w'
                      go_simp
                      first | with_reducible rfl | (simp [Instr.field, asAgg, Go.part, run_underlying hu41, run_underlying hu42, run_underlying hu43, run_underlying hu45]; rfl) | rfl
                    rotate_left
                    · simp only [Act.put, List.setIfInBounds_toArray, List.set_cons_zero, List.set_cons_succ, i64_w, i32_w]
                      rfl
                    refine pure_ (i := 4) (N := some 82) (v := ?_) (a' := ?_) #[true, true, true, true, true, false, false, false, false, false, false, false, false] rfl rfl (by kernel_rfl) (fun _ _ _ h => h) (Or.inl ⟨by rfl, ?_⟩) ?_ ?_
                    rotate_left
                    · intro w'
                      go_simp
                      first | with_reducible rfl | (simp [Instr.field, asAgg, Go.part, run_underlying hu41, run_underlying hu42, run_underlying hu43, run_underlying hu45]; rfl) | rfl
                    rotate_left
                    · simp only [Act.put, List.setIfInBounds_toArray, List.set_cons_zero, List.set_cons_succ, i64_w, i32_w]
                      rfl
                    refine pure_ (i := 5) (N := some 83) (v := ?_) (a' := ?_) #[true, true, true, true, true, true, false, false, false, false, false, false, false] rfl rfl (by kernel_rfl) (fun _ _ _ h => h) (Or.inl ⟨by rfl, ?_⟩) ?_ ?_
                    rotate_left
                    · intro w'
                      go_simp
                      first | with_reducible rfl | (simp [Instr.field, asAgg, Go.part, run_underlying hu41, run_underlying hu42, run_underlying hu43, run_underlying hu45]; rfl) | rfl
                    rotate_left
                    · simp only [Act.put, List.setIfInBounds_toArray, List.set_cons_zero, List.set_cons_succ, i64_w, i32_w]
                      rfl
                    refine pure_ (i := 6) (N := some 84) (v := ?_) (a' := ?_) #[true, true, true, true, true, true, true, false, false, false, false, false, false] rfl rfl (by kernel_rfl) (fun _ _ _ h => h) (Or.inl ⟨by rfl, ?_⟩) ?_ ?_
                    rotate_left
                    · intro w'
                      go_simp
                      first | with_reducible rfl | (simp [Instr.field, asAgg, Go.part, run_underlying hu41, run_underlying hu42, run_underlying hu43, run_underlying hu45]; rfl) | rfl
                    rotate_left
                    · simp only [Act.put, List.setIfInBounds_toArray, List.set_cons_zero, List.set_cons_succ, i64_w, i32_w]
                      rfl
                    refine take_ (i := 7) (N := some 85) (v := ?_) (a' := ?_) #[true, true, true, true, true, true, true, true, false, false, false, false, false] rfl rfl (by kernel_rfl) (fun _ _ _ h => h) (Or.inl ⟨by rfl, ?_⟩) hHeld ?_ ?_
                    rotate_left
                    · intro w' s0
                      go_simp
                      first | with_reducible rfl | (simp [Instr.field, asAgg, Go.part, run_underlying hu41, run_underlying hu42, run_underlying hu43, run_underlying hu45]; rfl) | rfl
                    rotate_left
                    · simp only [Act.put, List.setIfInBounds_toArray, List.set_cons_zero, List.set_cons_succ, i64_w, i32_w]
                      rfl
                    refine pure_ (i := 8) (N := some 86) (v := ?_) (a' := ?_) #[true, true, true, true, true, true, true, true, true, false, false, false, false] rfl rfl (by kernel_rfl) (fun _ _ _ h => h) (Or.inl ⟨by rfl, ?_⟩) ?_ ?_
                    rotate_left
                    · intro w'
                      go_simp
                      first | with_reducible rfl | (simp [Instr.field, asAgg, Go.part, run_underlying hu41, run_underlying hu42, run_underlying hu43, run_underlying hu45]; rfl) | rfl
                    rotate_left
                    · simp only [Act.put, List.setIfInBounds_toArray, List.set_cons_zero, List.set_cons_succ, i64_w, i32_w]
                      rfl
                    refine pure_ (i := 9) (N := some 87) (v := ?_) (a' := ?_) #[true, true, true, true, true, true, true, true, true, true, false, false, false] rfl rfl (by kernel_rfl) (fun _ _ _ h => h) (Or.inl ⟨by rfl, ?_⟩) ?_ ?_
                    rotate_left
                    · intro w'
                      go_simp
                      first | with_reducible rfl | (simp [Instr.field, asAgg, Go.part, run_underlying hu41, run_underlying hu42, run_underlying hu43, run_underlying hu45]; rfl) | rfl
                    rotate_left
                    · simp only [Act.put, List.setIfInBounds_toArray, List.set_cons_zero, List.set_cons_succ, i64_w, i32_w]
                      rfl
                    refine pure_ (i := 10) (N := some 88) (v := ?_) (a' := ?_) #[true, true, true, true, true, true, true, true, true, true, true, false, false] rfl rfl (by kernel_rfl) (fun _ _ _ h => h) (Or.inl ⟨by rfl, ?_⟩) ?_ ?_
                    rotate_left
                    · intro w'
                      go_simp
                      first | with_reducible rfl | (simp [Instr.field, asAgg, Go.part, run_underlying hu41, run_underlying hu42, run_underlying hu43, run_underlying hu45]; rfl) | rfl
                    rotate_left
                    · simp only [Act.put, List.setIfInBounds_toArray, List.set_cons_zero, List.set_cons_succ, i64_w, i32_w]
                      rfl
                    refine pure_ (i := 11) (N := some 89) (v := ?_) (a' := ?_) #[true, true, true, true, true, true, true, true, true, true, true, true, false] rfl rfl (by kernel_rfl) (fun _ _ _ h => h) (Or.inl ⟨by rfl, ?_⟩) ?_ ?_
                    rotate_left
                    · intro w'
                      go_simp
                      first | with_reducible rfl | (simp [Instr.field, asAgg, Go.part, run_underlying hu41, run_underlying hu42, run_underlying hu43, run_underlying hu45]; rfl) | rfl
                    rotate_left
                    · simp only [Act.put, List.setIfInBounds_toArray, List.set_cons_zero, List.set_cons_succ, i64_w, i32_w]
                      rfl
                    have p115_0 : 0 ≤ (ji13_ : Int) := of_decide_eq_true (by first | (with_reducible assumption) | assumption)
                    have q115_0 : (ji13_ : Int) < 6 := of_decide_eq_true (by first | (with_reducible assumption) | assumption)
                    have p115_1 : 0 ≤ (ji13_ : Int) := of_decide_eq_true (by first | (with_reducible assumption) | assumption)
                    have q115_1 : (ji13_ : Int) < 6 := of_decide_eq_true (by first | (with_reducible assumption) | assumption)
                    have o115 : 6 + ji13_.toNat * 6 + ji13_.toNat < m3_17.length := (by have h_ : m3_17.length = 258 := HLm3_17.out; rw [h_]; omega)
                    have hx115 := xcellI (HM.out.box 0 rfl) (6 + ji13_.toNat * 6 + ji13_.toNat) o115
                    clear o115
                    replace p115_0 := eq_true p115_0
                    replace q115_0 := eq_true q115_0
                    replace p115_1 := eq_true p115_1
                    replace q115_1 := eq_true q115_1
                    have hf115 := blk_frozen (HM.out.box 0 rfl) (6 + ji13_.toNat * 6 + ji13_.toNat)
                    refine last_ (i := 12) (N := none) #[true, true, true, true, true, true, true, true, true, true, true, true, true] rfl rfl (by kernel_rfl) (by decide) (fun K hK => ?_)
                    refine skip_ (w1 := w39_.setCell ⟨gb3, 6 + ji13_.toNat * 6 + ji13_.toNat, none⟩ (.int .i64 (wrap64 ((m3_17.getD (6 + ji13_.toNat * 6 + ji13_.toNat) 0) + 1)))) (by rfl) rfl ?_ ?_
                    · first | (go_simp; done) | (go_simp; rfl)
                    generalize hw : w39_.setCell ⟨gb3, 6 + ji13_.toNat * 6 + ji13_.toNat, none⟩ (.int .i64 (wrap64 ((m3_17.getD (6 + ji13_.toNat * 6 + ji13_.toNat) 0) + 1))) = w40_
                    have n_ : Aside0 (MS w w40_ [.box gb3 45 (ics y114), .box gb2 45 (ics (List.replicate 258 0)), .box gb1 45 (ics l0)]) := ⟨by rw [← hw]; exact HM.out.setBox 0 rfl _ _ (by rw [ics_set, ← Ny114.out])⟩
                    clear HM hw
                    have HM := n_
                    clear n_
                    refine hK.out _ _ ?_
                    clear hK K
                    refine done_ (by kernel_rfl) ?_
                    have H := H'.out
                    clear H'
                    have H' := Aside0.mk H
                    clear H
                    go_wp2
                    go_loopg [10] k19_ (fun kq v10 w' => ∃ (x10_41 : Int) (m3_41 : List Int), v10 = .int .i64 x10_41 ∧ Aside0 (spec_l8Behind.l2 kq ji13_ x10_41 m3_41 l0 = some r) ∧ Aside0 (kq ≤ k19_) ∧ Aside0 (m3_41.length = 258) ∧ Aside0 (MS w w' [.box gb3 45 (ics m3_41), .box gb2 45 (ics (List.replicate 258 0)), .box gb1 45 (ics l0)]))
                    case atStart => exact ⟨(0), (y114), (by first | rfl | (simp; done) | (simp only [i64_w]; done) | (simp [i64_w]; done) | (simp [*]; done)), H', ⟨Nat.le_refl _⟩, ⟨(show y114.length = 258 from by rw [Ny114.out, List.length_set]; exact HLm3_17.out)⟩, HM⟩
                    case round =>
                      clear H'
                      clear HM
                      obtain ⟨x10_41, m3_41, rfl, HA, HK42_, HLm3_41, HM⟩ := hrel
                      cases gk with
                      | zero => exact absurd HA.out (by simp [spec_l8Behind.l2])
                      | succ k43_ =>
                        have H := HA.out
                        clear HA
                        simp only [spec_l8Behind.l2] at H
                        by_cases c44_ : x10_41 < 6
                        · rw [if_pos c44_] at H
                          have c44_b0 : decide (x10_41 < 6) = true := decide_eq_true c44_
                          clear c44_
                          by_cases c45_ : 0 ≤ x10_41
                          · rw [if_pos c45_] at H
                            have c45_b0 : decide (0 ≤ x10_41) = true := decide_eq_true c45_
                            clear c45_
                            by_cases c46_ : 0 ≤ ji13_
                            · rw [if_pos c46_] at H
                              have c46_b0 : decide (0 ≤ ji13_) = true := decide_eq_true c46_
                              clear c46_
                              by_cases c47_ : ji13_ < 6
                              · rw [if_pos c47_] at H
                                have c47_b0 : decide (ji13_ < 6) = true := decide_eq_true c47_
                                clear c47_
                                obtain ⟨y118, hy118⟩ : ∃ y_, y_ = (m3_41.set (42 + x10_41.toNat * 36 + ji13_.toNat * 6 + ji13_.toNat) (wrap64 ((m3_41.getD (42 + x10_41.toNat * 36 + ji13_.toNat * 6 + ji13_.toNat) 0) + (l0.getD (x10_41.toNat) 0)))) := ⟨_, rfl⟩
                                replace H : (spec_l8Behind.l2 k43_ ji13_ (wrap64 (x10_41 + 1)) y118 l0) = some r := by first | (rw [hy118]; with_reducible exact H) | (have H2_ := (Option.bind_some _ _).symm.trans H; rw [hy118]; with_reducible exact H2_) | (have H2_ := (Option.bind_some _ _).symm.trans H; with_reducible exact H2_) | with_reducible exact H | (rw [hy118]; exact H) | exact H
                                have Ny118 := Aside0.mk hy118
                                clear hy118
                                have H' := Aside0.mk H
                                clear H
                                go_wp2
                                have p116_0 : 0 ≤ (x10_41 : Int) := of_decide_eq_true (by first | (with_reducible assumption) | assumption)
                                have q116_0 : (x10_41 : Int) < 6 := of_decide_eq_true (by first | (with_reducible assumption) | assumption)
                                have p116_1 : 0 ≤ (ji13_ : Int) := of_decide_eq_true (by first | (with_reducible assumption) | assumption)
                                have q116_1 : (ji13_ : Int) < 6 := of_decide_eq_true (by first | (with_reducible assumption) | assumption)
                                have p116_2 : 0 ≤ (ji13_ : Int) := of_decide_eq_true (by first | (with_reducible assumption) | assumption)
                                have q116_2 : (ji13_ : Int) < 6 := of_decide_eq_true (by first | (with_reducible assumption) | assumption)
                                have o116 : 42 + x10_41.toNat * 36 + ji13_.toNat * 6 + ji13_.toNat < m3_41.length := (by have h_ : m3_41.length = 258 := HLm3_41.out; rw [h_]; omega)
                                have hx116 := xcellI (HM.out.box 0 rfl) (42 + x10_41.toNat * 36 + ji13_.toNat * 6 + ji13_.toNat) o116
                                have ho116 := Aside0.mk o116
                                clear o116
                                replace p116_0 := eq_true p116_0
                                replace q116_0 := eq_true q116_0
                                replace p116_1 := eq_true p116_1
                                replace q116_1 := eq_true q116_1
                                replace p116_2 := eq_true p116_2
                                replace q116_2 := eq_true q116_2
                                have p117_0 : 0 ≤ (x10_41 : Int) := of_decide_eq_true (by first | (with_reducible assumption) | assumption)
                                have q117_0 : (x10_41 : Int) < 6 := of_decide_eq_true (by first | (with_reducible assumption) | assumption)
                                have o117 : x10_41.toNat < l0.length := (by have h_ : l0.length = 258 := HL0.out; rw [h_]; omega)
                                have hx117 := xcellI (HM.out.box 2 rfl) (x10_41.toNat) o117
                                have ho117 := Aside0.mk o117
                                clear o117
                                replace p117_0 := eq_true p117_0
                                replace q117_0 := eq_true q117_0
                                have n_ := Aside0.mk (HM.out.step (below_drew1 (Below.refl wr.heap.size wr)))
                                clear HM
                                have HM := n_
                                clear n_
                                refine start_ (n := 21) (S := fun w' => (w'.cell? ⟨gb3, 42 + x10_41.toNat * 36 + ji13_.toNat * 6 + ji13_.toNat, none⟩ = some (.int .i64 (m3_41.getD (42 + x10_41.toNat * 36 + ji13_.toNat * 6 + ji13_.toNat) 0))) ∧ (w'.cell? ⟨gb1, x10_41.toNat, none⟩ = some (.int .i64 (l0.getD (x10_41.toNat) 0)))) (ds := [20]) #[false, false, false, false, false, false, false, false, false, false, false, false, false, false, false, false, false, false, false, false, false] (by kernel_rfl) rfl rfl (⟨xcellI (HM.out.box 0 rfl) (42 + x10_41.toNat * 36 + ji13_.toNat * 6 + ji13_.toNat) ho116.out, xcellI (HM.out.box 2 rfl) (x10_41.toNat) ho117.out⟩) (fun hHeld => ?_)
                                generalize wr.drew = w48_ at HM hHeld ⊢
                                refine pure_ (i := 0) (N := some 94) (v := ?_) (a' := ?_) #[true, false, false, false, false, false, false, false, false, false, false, false, false, false, false, false, false, false, false, false, false] rfl rfl (by kernel_rfl) (fun _ _ _ h => h) (Or.inl ⟨by rfl, ?_⟩) ?_ ?_
                                rotate_left
                                · intro w'
                                  go_simp
                                  first | with_reducible rfl | (simp [Instr.field, asAgg, Go.part, run_underlying hu41, run_underlying hu42, run_underlying hu43, run_underlying hu45]; rfl) | rfl
                                rotate_left
                                · simp only [Act.put, List.setIfInBounds_toArray, List.set_cons_zero, List.set_cons_succ, i64_w, i32_w]
                                  rfl
                                refine pure_ (i := 1) (N := some 95) (v := ?_) (a' := ?_) #[true, true, false, false, false, false, false, false, false, false, false, false, false, false, false, false, false, false, false, false, false] rfl rfl (by kernel_rfl) (fun _ _ _ h => h) (Or.inl ⟨by rfl, ?_⟩) ?_ ?_
                                rotate_left
                                · intro w'
                                  go_simp
                                  first | with_reducible rfl | (simp [Instr.field, asAgg, Go.part, run_underlying hu41, run_underlying hu42, run_underlying hu43, run_underlying hu45]; rfl) | rfl
                                rotate_left
                                · simp only [Act.put, List.setIfInBounds_toArray, List.set_cons_zero, List.set_cons_succ, i64_w, i32_w]
                                  rfl
                                refine pure_ (i := 2) (N := some 96) (v := ?_) (a' := ?_) #[true, true, true, false, false, false, false, false, false, false, false, false, false, false, false, false, false, false, false, false, false] rfl rfl (by kernel_rfl) (fun _ _ _ h => h) (Or.inl ⟨by rfl, ?_⟩) ?_ ?_
                                rotate_left
                                · intro w'
                                  go_simp
                                  first | with_reducible rfl | (simp [Instr.field, asAgg, Go.part, run_underlying hu41, run_underlying hu42, run_underlying hu43, run_underlying hu45]; rfl) | rfl
                                rotate_left
                                · simp only [Act.put, List.setIfInBounds_toArray, List.set_cons_zero, List.set_cons_succ, i64_w, i32_w]
                                  rfl
                                refine pure_ (i := 3) (N := some 97) (v := ?_) (a' := ?_) #[true, true, true, true, false, false, false, false, false, false, false, false, false, false, false, false, false, false, false, false, false] rfl rfl (by kernel_rfl) (fun _ _ _ h => h) (Or.inl ⟨by rfl, ?_⟩) ?_ ?_
                                rotate_left
                                · intro w'
                                  go_simp
                                  first | with_reducible rfl | (simp [Instr.field, asAgg, Go.part, run_underlying hu41, run_underlying hu42, run_underlying hu43, run_underlying hu45]; rfl) | rfl
                                rotate_left
                                · simp only [Act.put, List.setIfInBounds_toArray, List.set_cons_zero, List.set_cons_succ, i64_w, i32_w]
                                  rfl
                                refine pure_ (i := 4) (N := some 98) (v := ?_) (a' := ?_) #[true, true, true, true, true, false, false, false, false, false, false, false, false, false, false, false, false, false, false, false, false] rfl rfl (by kernel_rfl) (fun _ _ _ h => h) (Or.inl ⟨by rfl, ?_⟩) ?_ ?_
                                rotate_left
                                · intro w'
                                  go_simp
                                  first | with_reducible rfl | (simp [Instr.field, asAgg, Go.part, run_underlying hu41, run_underlying hu42, run_underlying hu43, run_underlying hu45]; rfl) | rfl
                                rotate_left
                                · simp only [Act.put, List.setIfInBounds_toArray, List.set_cons_zero, List.set_cons_succ, i64_w, i32_w]
                                  rfl
                                refine pure_ (i := 5) (N := some 99) (v := ?_) (a' := ?_) #[true, true, true, true, true, true, false, false, false, false, false, false, false, false, false, false, false, false, false, false, false] rfl rfl (by kernel_rfl) (fun _ _ _ h => h) (Or.inl ⟨by rfl, ?_⟩) ?_ ?_
                                rotate_left
                                · intro w'
                                  go_simp
                                  first | with_reducible rfl | (simp [Instr.field, asAgg, Go.part, run_underlying hu41, run_underlying hu42, run_underlying hu43, run_underlying hu45]; rfl) | rfl
                                rotate_left
                                · simp only [Act.put, List.setIfInBounds_toArray, List.set_cons_zero, List.set_cons_succ, i64_w, i32_w]
                                  rfl
                                refine pure_ (i := 6) (N := some 100) (v := ?_) (a' := ?_) #[true, true, true, true, true, true, true, false, false, false, false, false, false, false, false, false, false, false, false, false, false] rfl rfl (by kernel_rfl) (fun _ _ _ h => h) (Or.inl ⟨by rfl, ?_⟩) ?_ ?_
                                rotate_left
                                · intro w'
                                  go_simp
                                  first | with_reducible rfl | (simp [Instr.field, asAgg, Go.part, run_underlying hu41, run_underlying hu42, run_underlying hu43, run_underlying hu45]; rfl) | rfl
                                rotate_left
                                · simp only [Act.put, List.setIfInBounds_toArray, List.set_cons_zero, List.set_cons_succ, i64_w, i32_w]
                                  rfl
                                refine pure_ (i := 7) (N := some 101) (v := ?_) (a' := ?_) #[true, true, true, true, true, true, true, true, false, false, false, false, false, false, false, false, false, false, false, false, false] rfl rfl (by kernel_rfl) (fun _ _ _ h => h) (Or.inl ⟨by rfl, ?_⟩) ?_ ?_
                                rotate_left
                                · intro w'
                                  go_simp
                                  first | with_reducible rfl | (simp [Instr.field, asAgg, Go.part, run_underlying hu41, run_underlying hu42, run_underlying hu43, run_underlying hu45]; rfl) | rfl
                                rotate_left
                                · simp only [Act.put, List.setIfInBounds_toArray, List.set_cons_zero, List.set_cons_succ, i64_w, i32_w]
                                  rfl
                                refine pure_ (i := 8) (N := some 102) (v := ?_) (a' := ?_) #[true, true, true, true, true, true, true, true, true, false, false, false, false, false, false, false, false, false, false, false, false] rfl rfl (by kernel_rfl) (fun _ _ _ h => h) (Or.inl ⟨by rfl, ?_⟩) ?_ ?_
                                rotate_left
                                · intro w'
                                  go_simp
                                  first | with_reducible rfl | (simp [Instr.field, asAgg, Go.part, run_underlying hu41, run_underlying hu42, run_underlying hu43, run_underlying hu45]; rfl) | rfl
                                rotate_left
                                · simp only [Act.put, List.setIfInBounds_toArray, List.set_cons_zero, List.set_cons_succ, i64_w, i32_w]
                                  rfl
                                refine pure_ (i := 9) (N := some 103) (v := ?_) (a' := ?_) #[true, true, true, true, true, true, true, true, true, true, false, false, false, false, false, false, false, false, false, false, false] rfl rfl (by kernel_rfl) (fun _ _ _ h => h) (Or.inl ⟨by rfl, ?_⟩) ?_ ?_
                                rotate_left
                                · intro w'
                                  go_simp
                                  first | with_reducible rfl | (simp [Instr.field, asAgg, Go.part, run_underlying hu41, run_underlying hu42, run_underlying hu43, run_underlying hu45]; rfl) | rfl
                                rotate_left
                                · simp only [Act.put, List.setIfInBounds_toArray, List.set_cons_zero, List.set_cons_succ, i64_w, i32_w]
                                  rfl
                                refine take_ (i := 10) (N := some 104) (v := ?_) (a' := ?_) #[true, true, true, true, true, true, true, true, true, true, true, false, false, false, false, false, false, false, false, false, false] rfl rfl (by kernel_rfl) (fun _ _ _ h => h) (Or.inl ⟨by rfl, ?_⟩) hHeld ?_ ?_
                                rotate_left
                                · intro w' s0
                                  obtain ⟨s0_, s1_⟩ := s0
                                  go_simp
                                  first | with_reducible rfl | (simp [Instr.field, asAgg, Go.part, run_underlying hu41, run_underlying hu42, run_underlying hu43, run_underlying hu45]; rfl) | rfl
                                rotate_left
                                · simp only [Act.put, List.setIfInBounds_toArray, List.set_cons_zero, List.set_cons_succ, i64_w, i32_w]
                                  rfl
                                refine pure_ (i := 11) (N := some 105) (v := ?_) (a' := ?_) #[true, true, true, true, true, true, true, true, true, true, true, true, false, false, false, false, false, false, false, false, false] rfl rfl (by kernel_rfl) (fun _ _ _ h => h) (Or.inl ⟨by rfl, ?_⟩) ?_ ?_
                                rotate_left
                                · intro w'
                                  go_simp
                                  first | with_reducible rfl | (simp [Instr.field, asAgg, Go.part, run_underlying hu41, run_underlying hu42, run_underlying hu43, run_underlying hu45]; rfl) | rfl
                                rotate_left
                                · simp only [Act.put, List.setIfInBounds_toArray, List.set_cons_zero, List.set_cons_succ, i64_w, i32_w]
                                  rfl
                                refine pure_ (i := 12) (N := some 106) (v := ?_) (a' := ?_) #[true, true, true, true, true, true, true, true, true, true, true, true, true, false, false, false, false, false, false, false, false] rfl rfl (by kernel_rfl) (fun _ _ _ h => h) (Or.inl ⟨by rfl, ?_⟩) ?_ ?_
                                rotate_left
                                · intro w'
                                  go_simp
                                  first | with_reducible rfl | (simp [Instr.field, asAgg, Go.part, run_underlying hu41, run_underlying hu42, run_underlying hu43, run_underlying hu45]; rfl) | rfl
                                rotate_left
                                · simp only [Act.put, List.setIfInBounds_toArray, List.set_cons_zero, List.set_cons_succ, i64_w, i32_w]
                                  rfl
                                refine pure_ (i := 13) (N := some 107) (v := ?_) (a' := ?_) #[true, true, true, true, true, true, true, true, true, true, true, true, true, true, false, false, false, false, false, false, false] rfl rfl (by kernel_rfl) (fun _ _ _ h => h) (Or.inl ⟨by rfl, ?_⟩) ?_ ?_
                                rotate_left
                                · intro w'
                                  go_simp
                                  first | with_reducible rfl | (simp [Instr.field, asAgg, Go.part, run_underlying hu41, run_underlying hu42, run_underlying hu43, run_underlying hu45]; rfl) | rfl
                                rotate_left
                                · simp only [Act.put, List.setIfInBounds_toArray, List.set_cons_zero, List.set_cons_succ, i64_w, i32_w]
                                  rfl
                                refine take_ (i := 14) (N := some 108) (v := ?_) (a' := ?_) #[true, true, true, true, true, true, true, true, true, true, true, true, true, true, true, false, false, false, false, false, false] rfl rfl (by kernel_rfl) (fun _ _ _ h => h) (Or.inl ⟨by rfl, ?_⟩) hHeld ?_ ?_
                                rotate_left
                                · intro w' s0
                                  obtain ⟨s0_, s1_⟩ := s0
                                  go_simp
                                  first | with_reducible rfl | (simp [Instr.field, asAgg, Go.part, run_underlying hu41, run_underlying hu42, run_underlying hu43, run_underlying hu45]; rfl) | rfl
                                rotate_left
                                · simp only [Act.put, List.setIfInBounds_toArray, List.set_cons_zero, List.set_cons_succ, i64_w, i32_w]
                                  rfl
                                refine pure_ (i := 15) (N := some 109) (v := ?_) (a' := ?_) #[true, true, true, true, true, true, true, true, true, true, true, true, true, true, true, true, false, false, false, false, false] rfl rfl (by kernel_rfl) (fun _ _ _ h => h) (Or.inl ⟨by rfl, ?_⟩) ?_ ?_
                                rotate_left
                                · intro w'
                                  go_simp
                                  first | with_reducible rfl | (simp [Instr.field, asAgg, Go.part, run_underlying hu41, run_underlying hu42, run_underlying hu43, run_underlying hu45]; rfl) | rfl
                                rotate_left
                                · simp only [Act.put, List.setIfInBounds_toArray, List.set_cons_zero, List.set_cons_succ, i64_w, i32_w]
                                  rfl
                                refine pure_ (i := 16) (N := some 110) (v := ?_) (a' := ?_) #[true, true, true, true, true, true, true, true, true, true, true, true, true, true, true, true, true, false, false, false, false] rfl rfl (by kernel_rfl) (fun _ _ _ h => h) (Or.inl ⟨by rfl, ?_⟩) ?_ ?_
                                rotate_left
                                · intro w'
                                  go_simp
                                  first | with_reducible rfl | (simp [Instr.field, asAgg, Go.part, run_underlying hu41, run_underlying hu42, run_underlying hu43, run_underlying hu45]; rfl) | rfl
                                rotate_left
                                · simp only [Act.put, List.setIfInBounds_toArray, List.set_cons_zero, List.set_cons_succ, i64_w, i32_w]
                                  rfl
                                refine pure_ (i := 17) (N := some 111) (v := ?_) (a' := ?_) #[true, true, true, true, true, true, true, true, true, true, true, true, true, true, true, true, true, true, false, false, false] rfl rfl (by kernel_rfl) (fun _ _ _ h => h) (Or.inl ⟨by rfl, ?_⟩) ?_ ?_
                                rotate_left
                                · intro w'
                                  go_simp
                                  first | with_reducible rfl | (simp [Instr.field, asAgg, Go.part, run_underlying hu41, run_underlying hu42, run_underlying hu43, run_underlying hu45]; rfl) | rfl
                                rotate_left
                                · simp only [Act.put, List.setIfInBounds_toArray, List.set_cons_zero, List.set_cons_succ, i64_w, i32_w]
                                  rfl
                                refine pure_ (i := 18) (N := some 112) (v := ?_) (a' := ?_) #[true, true, true, true, true, true, true, true, true, true, true, true, true, true, true, true, true, true, true, false, false] rfl rfl (by kernel_rfl) (fun _ _ _ h => h) (Or.inl ⟨by rfl, ?_⟩) ?_ ?_
                                rotate_left
                                · intro w'
                                  go_simp
                                  first | with_reducible rfl | (simp [Instr.field, asAgg, Go.part, run_underlying hu41, run_underlying hu42, run_underlying hu43, run_underlying hu45]; rfl) | rfl
                                rotate_left
                                · simp only [Act.put, List.setIfInBounds_toArray, List.set_cons_zero, List.set_cons_succ, i64_w, i32_w]
                                  rfl
                                refine pure_ (i := 19) (N := some 113) (v := ?_) (a' := ?_) #[true, true, true, true, true, true, true, true, true, true, true, true, true, true, true, true, true, true, true, true, false] rfl rfl (by kernel_rfl) (fun _ _ _ h => h) (Or.inl ⟨by rfl, ?_⟩) ?_ ?_
                                rotate_left
                                · intro w'
                                  go_simp
                                  first | with_reducible rfl | (simp [Instr.field, asAgg, Go.part, run_underlying hu41, run_underlying hu42, run_underlying hu43, run_underlying hu45]; rfl) | rfl
                                rotate_left
                                · simp only [Act.put, List.setIfInBounds_toArray, List.set_cons_zero, List.set_cons_succ, i64_w, i32_w]
                                  rfl
                                have p119_0 : 0 ≤ (x10_41 : Int) := of_decide_eq_true (by first | (with_reducible assumption) | assumption)
                                have q119_0 : (x10_41 : Int) < 6 := of_decide_eq_true (by first | (with_reducible assumption) | assumption)
                                have p119_1 : 0 ≤ (ji13_ : Int) := of_decide_eq_true (by first | (with_reducible assumption) | assumption)
                                have q119_1 : (ji13_ : Int) < 6 := of_decide_eq_true (by first | (with_reducible assumption) | assumption)
                                have p119_2 : 0 ≤ (ji13_ : Int) := of_decide_eq_true (by first | (with_reducible assumption) | assumption)
                                have q119_2 : (ji13_ : Int) < 6 := of_decide_eq_true (by first | (with_reducible assumption) | assumption)
                                have o119 : 42 + x10_41.toNat * 36 + ji13_.toNat * 6 + ji13_.toNat < m3_41.length := (by have h_ : m3_41.length = 258 := HLm3_41.out; rw [h_]; omega)
                                have hx119 := xcellI (HM.out.box 0 rfl) (42 + x10_41.toNat * 36 + ji13_.toNat * 6 + ji13_.toNat) o119
                                clear o119
                                replace p119_0 := eq_true p119_0
                                replace q119_0 := eq_true q119_0
                                replace p119_1 := eq_true p119_1
                                replace q119_1 := eq_true q119_1
                                replace p119_2 := eq_true p119_2
                                replace q119_2 := eq_true q119_2
                                have hf119 := blk_frozen (HM.out.box 0 rfl) (42 + x10_41.toNat * 36 + ji13_.toNat * 6 + ji13_.toNat)
                                refine last_ (i := 20) (N := none) #[true, true, true, true, true, true, true, true, true, true, true, true, true, true, true, true, true, true, true, true, true] rfl rfl (by kernel_rfl) (by decide) (fun K hK => ?_)
                                refine skip_ (w1 := w48_.setCell ⟨gb3, 42 + x10_41.toNat * 36 + ji13_.toNat * 6 + ji13_.toNat, none⟩ (.int .i64 (wrap64 ((m3_41.getD (42 + x10_41.toNat * 36 + ji13_.toNat * 6 + ji13_.toNat) 0) + (l0.getD (x10_41.toNat) 0))))) (by rfl) rfl ?_ ?_
                                · first | (go_simp; done) | (go_simp; rfl)
                                generalize hw : w48_.setCell ⟨gb3, 42 + x10_41.toNat * 36 + ji13_.toNat * 6 + ji13_.toNat, none⟩ (.int .i64 (wrap64 ((m3_41.getD (42 + x10_41.toNat * 36 + ji13_.toNat * 6 + ji13_.toNat) 0) + (l0.getD (x10_41.toNat) 0)))) = w49_
                                have n_ : Aside0 (MS w w49_ [.box gb3 45 (ics y118), .box gb2 45 (ics (List.replicate 258 0)), .box gb1 45 (ics l0)]) := ⟨by rw [← hw]; exact HM.out.setBox 0 rfl _ _ (by rw [ics_set, ← Ny118.out])⟩
                                clear HM hw
                                have HM := n_
                                clear n_
                                refine hK.out _ _ ?_
                                clear hK K
                                refine done_ (by kernel_rfl) ?_
                                have H := H'.out
                                clear H'
                                have H' := Aside0.mk H
                                clear H
                                go_wp2
                                go_roundg k43_
                                case measure => have hHK18__ := HK18_.out; have hHK42__ := HK42_.out; omega
                                case rel => exact ⟨(wrap64 (x10_41 + 1)), (y118), (by first | rfl | (simp; done) | (simp only [i64_w]; done) | (simp [i64_w]; done) | (simp [*]; done)), H', ⟨by have hHK18__ := HK18_.out; have hHK42__ := HK42_.out; omega⟩, ⟨(show y118.length = 258 from by rw [Ny118.out, List.length_set]; exact HLm3_41.out)⟩, HM⟩
                              · rw [if_neg c47_] at H
                                have c47_b0 : decide (ji13_ < 6) = false := decide_eq_false c47_
                                clear c47_
                                exact absurd H (by simp)
                            · rw [if_neg c46_] at H
                              have c46_b0 : decide (0 ≤ ji13_) = false := decide_eq_false c46_
                              clear c46_
                              exact absurd H (by simp)
                          · rw [if_neg c45_] at H
                            have c45_b0 : decide (0 ≤ x10_41) = false := decide_eq_false c45_
                            clear c45_
                            exact absurd H (by simp)
                        · rw [if_neg c44_] at H
                          have c44_b0 : decide (x10_41 < 6) = false := decide_eq_false c44_
                          clear c44_
                          by_cases c50_ : 0 ≤ ji13_
                          · rw [if_pos c50_] at H
                            have c50_b0 : decide (0 ≤ ji13_) = true := decide_eq_true c50_
                            clear c50_
                            by_cases c51_ : ji13_ < 6
                            · rw [if_pos c51_] at H
                              have c51_b0 : decide (ji13_ < 6) = true := decide_eq_true c51_
                              clear c51_
                              obtain ⟨y121, hy121⟩ : ∃ y_, y_ = (m3_41.set (42 + ji13_.toNat * 36 + ji13_.toNat * 6 + ji13_.toNat) (wrap64 ((m3_41.getD (42 + ji13_.toNat * 36 + ji13_.toNat * 6 + ji13_.toNat) 0) - 1))) := ⟨_, rfl⟩
                              replace H : (some y121) = some r := by first | (rw [hy121]; with_reducible exact H) | (have H2_ := (Option.bind_some _ _).symm.trans H; rw [hy121]; with_reducible exact H2_) | (have H2_ := (Option.bind_some _ _).symm.trans H; with_reducible exact H2_) | with_reducible exact H | (rw [hy121]; exact H) | exact H
                              have Ny121 := Aside0.mk hy121
                              clear hy121
                              have H' := Aside0.mk H
                              clear H
                              go_wp2
                              have p120_0 : 0 ≤ (ji13_ : Int) := of_decide_eq_true (by first | (with_reducible assumption) | assumption)
                              have q120_0 : (ji13_ : Int) < 6 := of_decide_eq_true (by first | (with_reducible assumption) | assumption)
                              have p120_1 : 0 ≤ (ji13_ : Int) := of_decide_eq_true (by first | (with_reducible assumption) | assumption)
                              have q120_1 : (ji13_ : Int) < 6 := of_decide_eq_true (by first | (with_reducible assumption) | assumption)
                              have p120_2 : 0 ≤ (ji13_ : Int) := of_decide_eq_true (by first | (with_reducible assumption) | assumption)
                              have q120_2 : (ji13_ : Int) < 6 := of_decide_eq_true (by first | (with_reducible assumption) | assumption)
                              have o120 : 42 + ji13_.toNat * 36 + ji13_.toNat * 6 + ji13_.toNat < m3_41.length := (by have h_ : m3_41.length = 258 := HLm3_41.out; rw [h_]; omega)
                              have hx120 := xcellI (HM.out.box 0 rfl) (42 + ji13_.toNat * 36 + ji13_.toNat * 6 + ji13_.toNat) o120
                              have ho120 := Aside0.mk o120
                              clear o120
                              replace p120_0 := eq_true p120_0
                              replace q120_0 := eq_true q120_0
                              replace p120_1 := eq_true p120_1
                              replace q120_1 := eq_true q120_1
                              replace p120_2 := eq_true p120_2
                              replace q120_2 := eq_true q120_2
                              have n_ := Aside0.mk (HM.out.step (below_drew1 (Below.refl wr.heap.size wr)))
                              clear HM
                              have HM := n_
                              clear n_
                              refine start_ (n := 17) (S := fun w' => (w'.cell? ⟨gb3, 42 + ji13_.toNat * 36 + ji13_.toNat * 6 + ji13_.toNat, none⟩ = some (.int .i64 (m3_41.getD (42 + ji13_.toNat * 36 + ji13_.toNat * 6 + ji13_.toNat) 0)))) (ds := [16]) #[false, false, false, false, false, false, false, false, false, false, false, false, false, false, false, false, false] (by kernel_rfl) rfl rfl (xcellI (HM.out.box 0 rfl) (42 + ji13_.toNat * 36 + ji13_.toNat * 6 + ji13_.toNat) ho120.out) (fun hHeld => ?_)
                              generalize wr.drew = w52_ at HM hHeld ⊢
                              refine pure_ (i := 0) (N := some 114) (v := ?_) (a' := ?_) #[true, false, false, false, false, false, false, false, false, false, false, false, false, false, false, false, false] rfl rfl (by kernel_rfl) (fun _ _ _ h => h) (Or.inl ⟨by rfl, ?_⟩) ?_ ?_
                              rotate_left
                              · intro w'
                                go_simp
                                first | with_reducible rfl | (simp [Instr.field, asAgg, Go.part, run_underlying hu41, run_underlying hu42, run_underlying hu43, run_underlying hu45]; rfl) | rfl
                              rotate_left
                              · simp only [Act.put, List.setIfInBounds_toArray, List.set_cons_zero, List.set_cons_succ, i64_w, i32_w]
                                rfl
                              refine pure_ (i := 1) (N := some 115) (v := ?_) (a' := ?_) #[true, true, false, false, false, false, false, false, false, false, false, false, false, false, false, false, false] rfl rfl (by kernel_rfl) (fun _ _ _ h => h) (Or.inl ⟨by rfl, ?_⟩) ?_ ?_
                              rotate_left
                              · intro w'
                                go_simp
                                first | with_reducible rfl | (simp [Instr.field, asAgg, Go.part, run_underlying hu41, run_underlying hu42, run_underlying hu43, run_underlying hu45]; rfl) | rfl
                              rotate_left
                              · simp only [Act.put, List.setIfInBounds_toArray, List.set_cons_zero, List.set_cons_succ, i64_w, i32_w]
                                rfl
                              refine pure_ (i := 2) (N := some 116) (v := ?_) (a' := ?_) #[true, true, true, false, false, false, false, false, false, false, false, false, false, false, false, false, false] rfl rfl (by kernel_rfl) (fun _ _ _ h => h) (Or.inl ⟨by rfl, ?_⟩) ?_ ?_
                              rotate_left
                              · intro w'
                                go_simp
                                first | with_reducible rfl | (simp [Instr.field, asAgg, Go.part, run_underlying hu41, run_underlying hu42, run_underlying hu43, run_underlying hu45]; rfl) | rfl
                              rotate_left
                              · simp only [Act.put, List.setIfInBounds_toArray, List.set_cons_zero, List.set_cons_succ, i64_w, i32_w]
                                rfl
                              refine pure_ (i := 3) (N := some 117) (v := ?_) (a' := ?_) #[true, true, true, true, false, false, false, false, false, false, false, false, false, false, false, false, false] rfl rfl (by kernel_rfl) (fun _ _ _ h => h) (Or.inl ⟨by rfl, ?_⟩) ?_ ?_
                              rotate_left
                              · intro w'
                                go_simp
                                first | with_reducible rfl | (simp [Instr.field, asAgg, Go.part, run_underlying hu41, run_underlying hu42, run_underlying hu43, run_underlying hu45]; rfl) | rfl
                              rotate_left
                              · simp only [Act.put, List.setIfInBounds_toArray, List.set_cons_zero, List.set_cons_succ, i64_w, i32_w]
                                rfl
                              refine pure_ (i := 4) (N := some 118) (v := ?_) (a' := ?_) #[true, true, true, true, true, false, false, false, false, false, false, false, false, false, false, false, false] rfl rfl (by kernel_rfl) (fun _ _ _ h => h) (Or.inl ⟨by rfl, ?_⟩) ?_ ?_
                              rotate_left
                              · intro w'
                                go_simp
                                first | with_reducible rfl | (simp [Instr.field, asAgg, Go.part, run_underlying hu41, run_underlying hu42, run_underlying hu43, run_underlying hu45]; rfl) | rfl
                              rotate_left
                              · simp only [Act.put, List.setIfInBounds_toArray, List.set_cons_zero, List.set_cons_succ, i64_w, i32_w]
                                rfl
                              refine pure_ (i := 5) (N := some 119) (v := ?_) (a' := ?_) #[true, true, true, true, true, true, false, false, false, false, false, false, false, false, false, false, false] rfl rfl (by kernel_rfl) (fun _ _ _ h => h) (Or.inl ⟨by rfl, ?_⟩) ?_ ?_
                              rotate_left
                              · intro w'
                                go_simp
                                first | with_reducible rfl | (simp [Instr.field, asAgg, Go.part, run_underlying hu41, run_underlying hu42, run_underlying hu43, run_underlying hu45]; rfl) | rfl
                              rotate_left
                              · simp only [Act.put, List.setIfInBounds_toArray, List.set_cons_zero, List.set_cons_succ, i64_w, i32_w]
                                rfl
                              refine pure_ (i := 6) (N := some 120) (v := ?_) (a' := ?_) #[true, true, true, true, true, true, true, false, false, false, false, false, false, false, false, false, false] rfl rfl (by kernel_rfl) (fun _ _ _ h => h) (Or.inl ⟨by rfl, ?_⟩) ?_ ?_
                              rotate_left
                              · intro w'
                                go_simp
                                first | with_reducible rfl | (simp [Instr.field, asAgg, Go.part, run_underlying hu41, run_underlying hu42, run_underlying hu43, run_underlying hu45]; rfl) | rfl
                              rotate_left
                              · simp only [Act.put, List.setIfInBounds_toArray, List.set_cons_zero, List.set_cons_succ, i64_w, i32_w]
                                rfl
                              refine pure_ (i := 7) (N := some 121) (v := ?_) (a' := ?_) #[true, true, true, true, true, true, true, true, false, false, false, false, false, false, false, false, false] rfl rfl (by kernel_rfl) (fun _ _ _ h => h) (Or.inl ⟨by rfl, ?_⟩) ?_ ?_
                              rotate_left
                              · intro w'
                                go_simp
                                first | with_reducible rfl | (simp [Instr.field, asAgg, Go.part, run_underlying hu41, run_underlying hu42, run_underlying hu43, run_underlying hu45]; rfl) | rfl
                              rotate_left
                              · simp only [Act.put, List.setIfInBounds_toArray, List.set_cons_zero, List.set_cons_succ, i64_w, i32_w]
                                rfl
                              refine pure_ (i := 8) (N := some 122) (v := ?_) (a' := ?_) #[true, true, true, true, true, true, true, true, true, false, false, false, false, false, false, false, false] rfl rfl (by kernel_rfl) (fun _ _ _ h => h) (Or.inl ⟨by rfl, ?_⟩) ?_ ?_
                              rotate_left
                              · intro w'
                                go_simp
                                first | with_reducible rfl | (simp [Instr.field, asAgg, Go.part, run_underlying hu41, run_underlying hu42, run_underlying hu43, run_underlying hu45]; rfl) | rfl
                              rotate_left
                              · simp only [Act.put, List.setIfInBounds_toArray, List.set_cons_zero, List.set_cons_succ, i64_w, i32_w]
                                rfl
                              refine pure_ (i := 9) (N := some 123) (v := ?_) (a' := ?_) #[true, true, true, true, true, true, true, true, true, true, false, false, false, false, false, false, false] rfl rfl (by kernel_rfl) (fun _ _ _ h => h) (Or.inl ⟨by rfl, ?_⟩) ?_ ?_
                              rotate_left
                              · intro w'
                                go_simp
                                first | with_reducible rfl | (simp [Instr.field, asAgg, Go.part, run_underlying hu41, run_underlying hu42, run_underlying hu43, run_underlying hu45]; rfl) | rfl
                              rotate_left
                              · simp only [Act.put, List.setIfInBounds_toArray, List.set_cons_zero, List.set_cons_succ, i64_w, i32_w]
                                rfl
                              refine take_ (i := 10) (N := some 124) (v := ?_) (a' := ?_) #[true, true, true, true, true, true, true, true, true, true, true, false, false, false, false, false, false] rfl rfl (by kernel_rfl) (fun _ _ _ h => h) (Or.inl ⟨by rfl, ?_⟩) hHeld ?_ ?_
                              rotate_left
                              · intro w' s0
                                go_simp
                                first | with_reducible rfl | (simp [Instr.field, asAgg, Go.part, run_underlying hu41, run_underlying hu42, run_underlying hu43, run_underlying hu45]; rfl) | rfl
                              rotate_left
                              · simp only [Act.put, List.setIfInBounds_toArray, List.set_cons_zero, List.set_cons_succ, i64_w, i32_w]
                                rfl
                              refine pure_ (i := 11) (N := some 125) (v := ?_) (a' := ?_) #[true, true, true, true, true, true, true, true, true, true, true, true, false, false, false, false, false] rfl rfl (by kernel_rfl) (fun _ _ _ h => h) (Or.inl ⟨by rfl, ?_⟩) ?_ ?_
                              rotate_left
                              · intro w'
                                go_simp
                                first | with_reducible rfl | (simp [Instr.field, asAgg, Go.part, run_underlying hu41, run_underlying hu42, run_underlying hu43, run_underlying hu45]; rfl) | rfl
                              rotate_left
                              · simp only [Act.put, List.setIfInBounds_toArray, List.set_cons_zero, List.set_cons_succ, i64_w, i32_w]
                                rfl
                              refine pure_ (i := 12) (N := some 126) (v := ?_) (a' := ?_) #[true, true, true, true, true, true, true, true, true, true, true, true, true, false, false, false, false] rfl rfl (by kernel_rfl) (fun _ _ _ h => h) (Or.inl ⟨by rfl, ?_⟩) ?_ ?_
                              rotate_left
                              · intro w'
                                go_simp
                                first | with_reducible rfl | (simp [Instr.field, asAgg, Go.part, run_underlying hu41, run_underlying hu42, run_underlying hu43, run_underlying hu45]; rfl) | rfl
                              rotate_left
                              · simp only [Act.put, List.setIfInBounds_toArray, List.set_cons_zero, List.set_cons_succ, i64_w, i32_w]
                                rfl
                              refine pure_ (i := 13) (N := some 127) (v := ?_) (a' := ?_) #[true, true, true, true, true, true, true, true, true, true, true, true, true, true, false, false, false] rfl rfl (by kernel_rfl) (fun _ _ _ h => h) (Or.inl ⟨by rfl, ?_⟩) ?_ ?_
                              rotate_left
                              · intro w'
                                go_simp
                                first | with_reducible rfl | (simp [Instr.field, asAgg, Go.part, run_underlying hu41, run_underlying hu42, run_underlying hu43, run_underlying hu45]; rfl) | rfl
                              rotate_left
                              · simp only [Act.put, List.setIfInBounds_toArray, List.set_cons_zero, List.set_cons_succ, i64_w, i32_w]
                                rfl
                              refine pure_ (i := 14) (N := some 128) (v := ?_) (a' := ?_) #[true, true, true, true, true, true, true, true, true, true, true, true, true, true, true, false, false] rfl rfl (by kernel_rfl) (fun _ _ _ h => h) (Or.inl ⟨by rfl, ?_⟩) ?_ ?_
                              rotate_left
                              · intro w'
                                go_simp
                                first | with_reducible rfl | (simp [Instr.field, asAgg, Go.part, run_underlying hu41, run_underlying hu42, run_underlying hu43, run_underlying hu45]; rfl) | rfl
                              rotate_left
                              · simp only [Act.put, List.setIfInBounds_toArray, List.set_cons_zero, List.set_cons_succ, i64_w, i32_w]
                                rfl
                              refine pure_ (i := 15) (N := some 129) (v := ?_) (a' := ?_) #[true, true, true, true, true, true, true, true, true, true, true, true, true, true, true, true, false] rfl rfl (by kernel_rfl) (fun _ _ _ h => h) (Or.inl ⟨by rfl, ?_⟩) ?_ ?_
                              rotate_left
                              · intro w'
                                go_simp
                                first | with_reducible rfl | (simp [Instr.field, asAgg, Go.part, run_underlying hu41, run_underlying hu42, run_underlying hu43, run_underlying hu45]; rfl) | rfl
                              rotate_left
                              · simp only [Act.put, List.setIfInBounds_toArray, List.set_cons_zero, List.set_cons_succ, i64_w, i32_w]
                                rfl
                              have p122_0 : 0 ≤ (ji13_ : Int) := of_decide_eq_true (by first | (with_reducible assumption) | assumption)
                              have q122_0 : (ji13_ : Int) < 6 := of_decide_eq_true (by first | (with_reducible assumption) | assumption)
                              have p122_1 : 0 ≤ (ji13_ : Int) := of_decide_eq_true (by first | (with_reducible assumption) | assumption)
                              have q122_1 : (ji13_ : Int) < 6 := of_decide_eq_true (by first | (with_reducible assumption) | assumption)
                              have p122_2 : 0 ≤ (ji13_ : Int) := of_decide_eq_true (by first | (with_reducible assumption) | assumption)
                              have q122_2 : (ji13_ : Int) < 6 := of_decide_eq_true (by first | (with_reducible assumption) | assumption)
                              have o122 : 42 + ji13_.toNat * 36 + ji13_.toNat * 6 + ji13_.toNat < m3_41.length := (by have h_ : m3_41.length = 258 := HLm3_41.out; rw [h_]; omega)
                              have hx122 := xcellI (HM.out.box 0 rfl) (42 + ji13_.toNat * 36 + ji13_.toNat * 6 + ji13_.toNat) o122
                              clear o122
                              replace p122_0 := eq_true p122_0
                              replace q122_0 := eq_true q122_0
                              replace p122_1 := eq_true p122_1
                              replace q122_1 := eq_true q122_1
                              replace p122_2 := eq_true p122_2
                              replace q122_2 := eq_true q122_2
                              have hf122 := blk_frozen (HM.out.box 0 rfl) (42 + ji13_.toNat * 36 + ji13_.toNat * 6 + ji13_.toNat)
                              refine last_ (i := 16) (N := none) #[true, true, true, true, true, true, true, true, true, true, true, true, true, true, true, true, true] rfl rfl (by kernel_rfl) (by decide) (fun K hK => ?_)
                              refine skip_ (w1 := w52_.setCell ⟨gb3, 42 + ji13_.toNat * 36 + ji13_.toNat * 6 + ji13_.toNat, none⟩ (.int .i64 (wrap64 ((m3_41.getD (42 + ji13_.toNat * 36 + ji13_.toNat * 6 + ji13_.toNat) 0) - 1)))) (by rfl) rfl ?_ ?_
                              · first | (go_simp; done) | (go_simp; rfl)
                              generalize hw : w52_.setCell ⟨gb3, 42 + ji13_.toNat * 36 + ji13_.toNat * 6 + ji13_.toNat, none⟩ (.int .i64 (wrap64 ((m3_41.getD (42 + ji13_.toNat * 36 + ji13_.toNat * 6 + ji13_.toNat) 0) - 1))) = w53_
                              have n_ : Aside0 (MS w w53_ [.box gb3 45 (ics y121), .box gb2 45 (ics (List.replicate 258 0)), .box gb1 45 (ics l0)]) := ⟨by rw [← hw]; exact HM.out.setBox 0 rfl _ _ (by rw [ics_set, ← Ny121.out])⟩
                              clear HM hw
                              have HM := n_
                              clear n_
                              refine hK.out _ _ ?_
                              clear hK K
                              refine done_ (by kernel_rfl) ?_
                              have H := H'.out
                              clear H'
                              obtain rfl := Option.some.inj H
                              go_wp2_with (first | ((with_reducible refine gate_dst (N := 130) rfl ?_); refine wpList_load_row rfl _ _ rfl gb3 rfl 45 (ics y121) (0, 0) _ (HM.out.box 0 rfl) Try.underlying45 rfl (by rw [ics_size, (show y121.length = 258 from by rw [Ny121.out, List.length_set]; exact HLm3_41.out)]; kernel_rfl) ?_) | ((with_reducible refine gate_store (t := 45) (p := 4) rfl ?_); refine wpList_store_row rfl _ _ _ rfl gb2 (ics y121) rfl rfl 45 (ics (List.replicate 258 0)) (HM.out.box 1 rfl) (by rw [ics_size, (show y121.length = 258 from by rw [Ny121.out, List.length_set]; exact HLm3_41.out)]; kernel_rfl) ((ics_size _).trans (((List.length_replicate)).trans ((show _ = 258 from (show y121.length = 258 from by rw [Ny121.out, List.length_set]; exact HLm3_41.out)).symm.trans (ics_size _).symm))) (ics_one _) ?_; generalize hw : World.setRow _ _ _ = w54_; have n_ : Aside0 (MS w w54_ [.box gb3 45 (ics y121), .box gb2 45 (ics y121), .box gb1 45 (ics l0)]) := ⟨by rw [← hw]; exact HM.out.setRow 1 rfl _⟩; clear HM hw; have HM := n_; clear n_))
                              refine bodyPost_ret (results_cell_row rfl _ _ gb2 45 (ics y121) (0, 0) _ rfl (HM.out.box 1 rfl) Try.underlying45 rfl (by rw [ics_size, (show y121.length = 258 from by rw [Ny121.out, List.length_set]; exact HLm3_41.out)]; kernel_rfl)) rfl ?_
                              exact ⟨by first | rfl | (simp; done) | (simp only [i64_w]; done) | (simp [i64_w]; done) | (simp [*]; done), (show y121.length = 258 from by rw [Ny121.out, List.length_set]; exact HLm3_41.out), HM.out.below⟩
                            · rw [if_neg c51_] at H
                              have c51_b0 : decide (ji13_ < 6) = false := decide_eq_false c51_
                              clear c51_
                              exact absurd H (by simp)
                          · rw [if_neg c50_] at H
                            have c50_b0 : decide (0 ≤ ji13_) = false := decide_eq_false c50_
                            clear c50_
                            exact absurd H (by simp)
                  · rw [if_neg c38_] at H
                    have c38_b0 : decide (ji13_ < 6) = false := decide_eq_false c38_
                    clear c38_
                    exact absurd H (by simp)
                · rw [if_neg c37_] at H
                  have c37_b0 : decide (0 ≤ ji13_) = false := decide_eq_false c37_
                  clear c37_
                  exact absurd H (by simp)
        · rw [if_neg c15_] at H
          have c15_b0 : decide (ji13_ < 6) = false := decide_eq_false c15_
          clear c15_
          exact absurd H (by simp)
      · rw [if_neg c14_] at H
        have c14_b0 : decide (0 ≤ ji13_) = false := decide_eq_false c14_
        clear c14_
        exact absurd H (by simp)
    · rw [if_neg c12_] at H
      have KNc12_ := Aside0.mk c12_
      have c12_b0 : decide (a1 < 0) = false := decide_eq_false c12_
      clear c12_
      obtain ⟨ji55_, hji55_⟩ : ∃ j_ : Int, (wrap64 (t101 - 1)) = j_ := ⟨_, rfl⟩
      replace H : (if 0 ≤ ji55_ then (if ji55_ < 6 then (spec_l8Behind.l0 k a1 ji55_ 1 0 (l0.set (ji55_.toNat) (wrap64 ((l0.getD (ji55_.toNat) 0) + 1))) l0) else (none)) else (none)) = some r := by first | (rw [hji55_] at H; exact H) | (simp only [hji55_] at H ⊢; exact H)
      have hji55_w : (IntKind.i64.wrap (t101 - 1)) = ji55_ := (i64_w _).trans hji55_
      by_cases c56_ : 0 ≤ ji55_
      · rw [if_pos c56_] at H
        have c56_b0 : decide (0 ≤ ji55_) = true := decide_eq_true c56_
        clear c56_
        by_cases c57_ : ji55_ < 6
        · rw [if_pos c57_] at H
          have c57_b0 : decide (ji55_ < 6) = true := decide_eq_true c57_
          clear c57_
          obtain ⟨y124, hy124⟩ : ∃ y_, y_ = (l0.set (ji55_.toNat) (wrap64 ((l0.getD (ji55_.toNat) 0) + 1))) := ⟨_, rfl⟩
          replace H : (spec_l8Behind.l0 k a1 ji55_ 1 0 y124 l0) = some r := by first | (rw [hy124]; with_reducible exact H) | (have H2_ := (Option.bind_some _ _).symm.trans H; rw [hy124]; with_reducible exact H2_) | (have H2_ := (Option.bind_some _ _).symm.trans H; with_reducible exact H2_) | with_reducible exact H | (rw [hy124]; exact H) | exact H
          have Ny124 := Aside0.mk hy124
          clear hy124
          have H' := Aside0.mk H
          clear H
          have p123_0 : 0 ≤ (ji55_ : Int) := of_decide_eq_true (by first | (with_reducible assumption) | assumption)
          have q123_0 : (ji55_ : Int) < 6 := of_decide_eq_true (by first | (with_reducible assumption) | assumption)
          have o123 : ji55_.toNat < l0.length := (by have h_ : l0.length = 258 := HL0.out; rw [h_]; omega)
          have hx123 := xcellI (HM.out.box 2 rfl) (ji55_.toNat) o123
          clear o123
          replace p123_0 := eq_true p123_0
          replace q123_0 := eq_true q123_0
          have p125_0 : 0 ≤ (ji55_ : Int) := of_decide_eq_true (by first | (with_reducible assumption) | assumption)
          have q125_0 : (ji55_ : Int) < 6 := of_decide_eq_true (by first | (with_reducible assumption) | assumption)
          have o125 : ji55_.toNat < l0.length := (by have h_ : l0.length = 258 := HL0.out; rw [h_]; omega)
          have hx125 := xcellI (HM.out.box 0 rfl) (ji55_.toNat) o125
          clear o125
          replace p125_0 := eq_true p125_0
          replace q125_0 := eq_true q125_0
          have hf125 := blk_frozen (HM.out.box 0 rfl) (ji55_.toNat)
          go_wp2_with (first | ((with_reducible refine gate_store (t := 3) (p := 25) rfl ?_); refine store_event (t := 3) (p := 25) (v := ?vow58_) (w1 := (w11_.setCell ⟨gb3, ji55_.toNat, none⟩ (.int .i64 (wrap64 ((l0.getD (ji55_.toNat) 0) + 1))))) ?hg ?ho ?hn ?hr ?_; (case ho => rfl); (case hg => rfl); (case hn => rfl); (case hr => first | (go_simp; done) | (go_simp; rfl)); intro w58_ hw; have n_ : Aside0 (MS w w58_ [.box gb3 45 (ics y124), .box gb2 45 (ics (List.replicate 258 0)), .box gb1 45 (ics l0)]) := ⟨by rw [hw]; exact HM.out.setBox 0 rfl _ _ (by rw [ics_set, ← Ny124.out])⟩; clear HM hw; have HM := n_; clear n_))
          go_loopg [8] k (fun kq v8 w' => ∃ (x8_59 : Int) (m3_59 : List Int), v8 = .int .i64 x8_59 ∧ Aside0 (spec_l8Behind.l0 kq a1 ji55_ 1 x8_59 m3_59 l0 = some r) ∧ Aside0 (kq ≤ k) ∧ Aside0 (m3_59.length = 258) ∧ Aside0 (MS w w' [.box gb3 45 (ics m3_59), .box gb2 45 (ics (List.replicate 258 0)), .box gb1 45 (ics l0)]))
          case atStart => exact ⟨(0), (y124), (by first | rfl | (simp; done) | (simp only [i64_w]; done) | (simp [i64_w]; done) | (simp only [← hji55_] <;> (first | rfl | (simp only [i64_w]; done) | simp)) | (simp [*]; done)), H', ⟨Nat.le_refl _⟩, ⟨(show y124.length = 258 from by rw [Ny124.out, List.length_set]; exact HL0.out)⟩, HM⟩
          case round =>
            clear H'
            clear HM
            obtain ⟨x8_59, m3_59, rfl, HA, HK60_, HLm3_59, HM⟩ := hrel
            cases gk with
            | zero => exact absurd HA.out (by simp [spec_l8Behind.l0])
            | succ k61_ =>
              have H := HA.out
              clear HA
              simp only [spec_l8Behind.l0] at H
              by_cases c62_ : x8_59 < 6
              · rw [if_pos c62_] at H
                have c62_b0 : decide (x8_59 < 6) = true := decide_eq_true c62_
                clear c62_
                by_cases c63_ : 0 ≤ x8_59
                · rw [if_pos c63_] at H
                  have c63_b0 : decide (0 ≤ x8_59) = true := decide_eq_true c63_
                  clear c63_
                  by_cases c64_ : 0 ≤ ji55_
                  · rw [if_pos c64_] at H
                    have c64_b0 : decide (0 ≤ ji55_) = true := decide_eq_true c64_
                    clear c64_
                    by_cases c65_ : ji55_ < 6
                    · rw [if_pos c65_] at H
                      have c65_b0 : decide (ji55_ < 6) = true := decide_eq_true c65_
                      clear c65_
                      obtain ⟨y107, hy107⟩ : ∃ y_, y_ = (m3_59.set (6 + x8_59.toNat * 6 + ji55_.toNat) (wrap64 ((l0.getD (6 + x8_59.toNat * 6 + ji55_.toNat) 0) + (wrap64 (1 * (l0.getD (x8_59.toNat) 0)))))) := ⟨_, rfl⟩
                      replace H : (spec_l8Behind.l1 k61_ a1 ji55_ 1 x8_59 0 y107 l0) = some r := by first | (rw [hy107]; with_reducible exact H) | (have H2_ := (Option.bind_some _ _).symm.trans H; rw [hy107]; with_reducible exact H2_) | (have H2_ := (Option.bind_some _ _).symm.trans H; with_reducible exact H2_) | with_reducible exact H | (rw [hy107]; exact H) | exact H
                      have Ny107 := Aside0.mk hy107
                      clear hy107
                      have H' := Aside0.mk H
                      clear H
                      go_wp2
                      have p105_0 : 0 ≤ (x8_59 : Int) := of_decide_eq_true (by first | (with_reducible assumption) | assumption)
                      have q105_0 : (x8_59 : Int) < 6 := of_decide_eq_true (by first | (with_reducible assumption) | assumption)
                      have p105_1 : 0 ≤ (ji55_ : Int) := of_decide_eq_true (by first | (with_reducible assumption) | assumption)
                      have q105_1 : (ji55_ : Int) < 6 := of_decide_eq_true (by first | (with_reducible assumption) | assumption)
                      have o105 : 6 + x8_59.toNat * 6 + ji55_.toNat < l0.length := (by have h_ : l0.length = 258 := HL0.out; rw [h_]; omega)
                      have hx105 := xcellI (HM.out.box 2 rfl) (6 + x8_59.toNat * 6 + ji55_.toNat) o105
                      have ho105 := Aside0.mk o105
                      clear o105
                      replace p105_0 := eq_true p105_0
                      replace q105_0 := eq_true q105_0
                      replace p105_1 := eq_true p105_1
                      replace q105_1 := eq_true q105_1
                      have p106_0 : 0 ≤ (x8_59 : Int) := of_decide_eq_true (by first | (with_reducible assumption) | assumption)
                      have q106_0 : (x8_59 : Int) < 6 := of_decide_eq_true (by first | (with_reducible assumption) | assumption)
                      have o106 : x8_59.toNat < l0.length := (by have h_ : l0.length = 258 := HL0.out; rw [h_]; omega)
                      have hx106 := xcellI (HM.out.box 2 rfl) (x8_59.toNat) o106
                      have ho106 := Aside0.mk o106
                      clear o106
                      replace p106_0 := eq_true p106_0
                      replace q106_0 := eq_true q106_0
                      have n_ := Aside0.mk (HM.out.step (below_drew1 (Below.refl wr.heap.size wr)))
                      clear HM
                      have HM := n_
                      clear n_
                      refine start_ (n := 19) (S := fun w' => (w'.cell? ⟨gb1, 6 + x8_59.toNat * 6 + ji55_.toNat, none⟩ = some (.int .i64 (l0.getD (6 + x8_59.toNat * 6 + ji55_.toNat) 0))) ∧ (w'.cell? ⟨gb1, x8_59.toNat, none⟩ = some (.int .i64 (l0.getD (x8_59.toNat) 0)))) (ds := [18]) #[false, false, false, false, false, false, false, false, false, false, false, false, false, false, false, false, false, false, false] (by kernel_rfl) rfl rfl (⟨xcellI (HM.out.box 2 rfl) (6 + x8_59.toNat * 6 + ji55_.toNat) ho105.out, xcellI (HM.out.box 2 rfl) (x8_59.toNat) ho106.out⟩) (fun hHeld => ?_)
                      generalize wr.drew = w66_ at HM hHeld ⊢
                      refine pure_ (i := 0) (N := some 30) (v := ?_) (a' := ?_) #[true, false, false, false, false, false, false, false, false, false, false, false, false, false, false, false, false, false, false] rfl rfl (by kernel_rfl) (fun _ _ _ h => h) (Or.inl ⟨by rfl, ?_⟩) ?_ ?_
                      rotate_left
                      · intro w'
                        go_simp
                        first | with_reducible rfl | (simp [Instr.field, asAgg, Go.part, run_underlying hu41, run_underlying hu42, run_underlying hu43, run_underlying hu45]; rfl) | rfl
                      rotate_left
                      · simp only [Act.put, List.setIfInBounds_toArray, List.set_cons_zero, List.set_cons_succ, i64_w, i32_w]
                        rfl
                      refine pure_ (i := 1) (N := some 31) (v := ?_) (a' := ?_) #[true, true, false, false, false, false, false, false, false, false, false, false, false, false, false, false, false, false, false] rfl rfl (by kernel_rfl) (fun _ _ _ h => h) (Or.inl ⟨by rfl, ?_⟩) ?_ ?_
                      rotate_left
                      · intro w'
                        go_simp
                        first | with_reducible rfl | (simp [Instr.field, asAgg, Go.part, run_underlying hu41, run_underlying hu42, run_underlying hu43, run_underlying hu45]; rfl) | rfl
                      rotate_left
                      · simp only [Act.put, List.setIfInBounds_toArray, List.set_cons_zero, List.set_cons_succ, i64_w, i32_w]
                        rfl
                      refine pure_ (i := 2) (N := some 32) (v := ?_) (a' := ?_) #[true, true, true, false, false, false, false, false, false, false, false, false, false, false, false, false, false, false, false] rfl rfl (by kernel_rfl) (fun _ _ _ h => h) (Or.inl ⟨by rfl, ?_⟩) ?_ ?_
                      rotate_left
                      · intro w'
                        go_simp
                        first | with_reducible rfl | (simp [Instr.field, asAgg, Go.part, run_underlying hu41, run_underlying hu42, run_underlying hu43, run_underlying hu45]; rfl) | rfl
                      rotate_left
                      · simp only [Act.put, List.setIfInBounds_toArray, List.set_cons_zero, List.set_cons_succ, i64_w, i32_w]
                        rfl
                      refine pure_ (i := 3) (N := some 33) (v := ?_) (a' := ?_) #[true, true, true, true, false, false, false, false, false, false, false, false, false, false, false, false, false, false, false] rfl rfl (by kernel_rfl) (fun _ _ _ h => h) (Or.inl ⟨by rfl, ?_⟩) ?_ ?_
                      rotate_left
                      · intro w'
                        go_simp
                        first | with_reducible rfl | (simp [Instr.field, asAgg, Go.part, run_underlying hu41, run_underlying hu42, run_underlying hu43, run_underlying hu45]; rfl) | rfl
                      rotate_left
                      · simp only [Act.put, List.setIfInBounds_toArray, List.set_cons_zero, List.set_cons_succ, i64_w, i32_w]
                        rfl
                      refine pure_ (i := 4) (N := some 34) (v := ?_) (a' := ?_) #[true, true, true, true, true, false, false, false, false, false, false, false, false, false, false, false, false, false, false] rfl rfl (by kernel_rfl) (fun _ _ _ h => h) (Or.inl ⟨by rfl, ?_⟩) ?_ ?_
                      rotate_left
                      · intro w'
                        go_simp
                        first | with_reducible rfl | (simp [Instr.field, asAgg, Go.part, run_underlying hu41, run_underlying hu42, run_underlying hu43, run_underlying hu45]; rfl) | rfl
                      rotate_left
                      · simp only [Act.put, List.setIfInBounds_toArray, List.set_cons_zero, List.set_cons_succ, i64_w, i32_w]
                        rfl
                      refine pure_ (i := 5) (N := some 35) (v := ?_) (a' := ?_) #[true, true, true, true, true, true, false, false, false, false, false, false, false, false, false, false, false, false, false] rfl rfl (by kernel_rfl) (fun _ _ _ h => h) (Or.inl ⟨by rfl, ?_⟩) ?_ ?_
                      rotate_left
                      · intro w'
                        go_simp
                        first | with_reducible rfl | (simp [Instr.field, asAgg, Go.part, run_underlying hu41, run_underlying hu42, run_underlying hu43, run_underlying hu45]; rfl) | rfl
                      rotate_left
                      · simp only [Act.put, List.setIfInBounds_toArray, List.set_cons_zero, List.set_cons_succ, i64_w, i32_w]
                        rfl
                      refine pure_ (i := 6) (N := some 36) (v := ?_) (a' := ?_) #[true, true, true, true, true, true, true, false, false, false, false, false, false, false, false, false, false, false, false] rfl rfl (by kernel_rfl) (fun _ _ _ h => h) (Or.inl ⟨by rfl, ?_⟩) ?_ ?_
                      rotate_left
                      · intro w'
                        go_simp
                        first | with_reducible rfl | (simp [Instr.field, asAgg, Go.part, run_underlying hu41, run_underlying hu42, run_underlying hu43, run_underlying hu45]; rfl) | rfl
                      rotate_left
                      · simp only [Act.put, List.setIfInBounds_toArray, List.set_cons_zero, List.set_cons_succ, i64_w, i32_w]
                        rfl
                      refine take_ (i := 7) (N := some 37) (v := ?_) (a' := ?_) #[true, true, true, true, true, true, true, true, false, false, false, false, false, false, false, false, false, false, false] rfl rfl (by kernel_rfl) (fun _ _ _ h => h) (Or.inl ⟨by rfl, ?_⟩) hHeld ?_ ?_
                      rotate_left
                      · intro w' s0
                        obtain ⟨s0_, s1_⟩ := s0
                        go_simp
                        first | with_reducible rfl | (simp [Instr.field, asAgg, Go.part, run_underlying hu41, run_underlying hu42, run_underlying hu43, run_underlying hu45]; rfl) | rfl
                      rotate_left
                      · simp only [Act.put, List.setIfInBounds_toArray, List.set_cons_zero, List.set_cons_succ, i64_w, i32_w]
                        rfl
                      refine pure_ (i := 8) (N := some 38) (v := ?_) (a' := ?_) #[true, true, true, true, true, true, true, true, true, false, false, false, false, false, false, false, false, false, false] rfl rfl (by kernel_rfl) (fun _ _ _ h => h) (Or.inl ⟨by rfl, ?_⟩) ?_ ?_
                      rotate_left
                      · intro w'
                        go_simp
                        first | with_reducible rfl | (simp [Instr.field, asAgg, Go.part, run_underlying hu41, run_underlying hu42, run_underlying hu43, run_underlying hu45]; rfl) | rfl
                      rotate_left
                      · simp only [Act.put, List.setIfInBounds_toArray, List.set_cons_zero, List.set_cons_succ, i64_w, i32_w]
                        rfl
                      refine pure_ (i := 9) (N := some 39) (v := ?_) (a' := ?_) #[true, true, true, true, true, true, true, true, true, true, false, false, false, false, false, false, false, false, false] rfl rfl (by kernel_rfl) (fun _ _ _ h => h) (Or.inl ⟨by rfl, ?_⟩) ?_ ?_
                      rotate_left
                      · intro w'
                        go_simp
                        first | with_reducible rfl | (simp [Instr.field, asAgg, Go.part, run_underlying hu41, run_underlying hu42, run_underlying hu43, run_underlying hu45]; rfl) | rfl
                      rotate_left
                      · simp only [Act.put, List.setIfInBounds_toArray, List.set_cons_zero, List.set_cons_succ, i64_w, i32_w]
                        rfl
                      refine pure_ (i := 10) (N := some 40) (v := ?_) (a' := ?_) #[true, true, true, true, true, true, true, true, true, true, true, false, false, false, false, false, false, false, false] rfl rfl (by kernel_rfl) (fun _ _ _ h => h) (Or.inl ⟨by rfl, ?_⟩) ?_ ?_
                      rotate_left
                      · intro w'
                        go_simp
                        first | with_reducible rfl | (simp [Instr.field, asAgg, Go.part, run_underlying hu41, run_underlying hu42, run_underlying hu43, run_underlying hu45]; rfl) | rfl
                      rotate_left
                      · simp only [Act.put, List.setIfInBounds_toArray, List.set_cons_zero, List.set_cons_succ, i64_w, i32_w]
                        rfl
                      refine pure_ (i := 11) (N := some 41) (v := ?_) (a' := ?_) #[true, true, true, true, true, true, true, true, true, true, true, true, false, false, false, false, false, false, false] rfl rfl (by kernel_rfl) (fun _ _ _ h => h) (Or.inl ⟨by rfl, ?_⟩) ?_ ?_
                      rotate_left
                      · intro w'
                        go_simp
                        first | with_reducible rfl | (simp [Instr.field, asAgg, Go.part, run_underlying hu41, run_underlying hu42, run_underlying hu43, run_underlying hu45]; rfl) | rfl
                      rotate_left
                      · simp only [Act.put, List.setIfInBounds_toArray, List.set_cons_zero, List.set_cons_succ, i64_w, i32_w]
                        rfl
                      refine take_ (i := 12) (N := some 42) (v := ?_) (a' := ?_) #[true, true, true, true, true, true, true, true, true, true, true, true, true, false, false, false, false, false, false] rfl rfl (by kernel_rfl) (fun _ _ _ h => h) (Or.inl ⟨by rfl, ?_⟩) hHeld ?_ ?_
                      rotate_left
                      · intro w' s0
                        obtain ⟨s0_, s1_⟩ := s0
                        go_simp
                        first | with_reducible rfl | (simp [Instr.field, asAgg, Go.part, run_underlying hu41, run_underlying hu42, run_underlying hu43, run_underlying hu45]; rfl) | rfl
                      rotate_left
                      · simp only [Act.put, List.setIfInBounds_toArray, List.set_cons_zero, List.set_cons_succ, i64_w, i32_w]
                        rfl
                      refine pure_ (i := 13) (N := some 43) (v := ?_) (a' := ?_) #[true, true, true, true, true, true, true, true, true, true, true, true, true, true, false, false, false, false, false] rfl rfl (by kernel_rfl) (fun _ _ _ h => h) (Or.inl ⟨by rfl, ?_⟩) ?_ ?_
                      rotate_left
                      · intro w'
                        go_simp
                        first | with_reducible rfl | (simp [Instr.field, asAgg, Go.part, run_underlying hu41, run_underlying hu42, run_underlying hu43, run_underlying hu45]; rfl) | rfl
                      rotate_left
                      · simp only [Act.put, List.setIfInBounds_toArray, List.set_cons_zero, List.set_cons_succ, i64_w, i32_w]
                        rfl
                      refine pure_ (i := 14) (N := some 44) (v := ?_) (a' := ?_) #[true, true, true, true, true, true, true, true, true, true, true, true, true, true, true, false, false, false, false] rfl rfl (by kernel_rfl) (fun _ _ _ h => h) (Or.inl ⟨by rfl, ?_⟩) ?_ ?_
                      rotate_left
                      · intro w'
                        go_simp
                        first | with_reducible rfl | (simp [Instr.field, asAgg, Go.part, run_underlying hu41, run_underlying hu42, run_underlying hu43, run_underlying hu45]; rfl) | rfl
                      rotate_left
                      · simp only [Act.put, List.setIfInBounds_toArray, List.set_cons_zero, List.set_cons_succ, i64_w, i32_w]
                        rfl
                      refine pure_ (i := 15) (N := some 45) (v := ?_) (a' := ?_) #[true, true, true, true, true, true, true, true, true, true, true, true, true, true, true, true, false, false, false] rfl rfl (by kernel_rfl) (fun _ _ _ h => h) (Or.inl ⟨by rfl, ?_⟩) ?_ ?_
                      rotate_left
                      · intro w'
                        go_simp
                        first | with_reducible rfl | (simp [Instr.field, asAgg, Go.part, run_underlying hu41, run_underlying hu42, run_underlying hu43, run_underlying hu45]; rfl) | rfl
                      rotate_left
                      · simp only [Act.put, List.setIfInBounds_toArray, List.set_cons_zero, List.set_cons_succ, i64_w, i32_w]
                        rfl
                      refine pure_ (i := 16) (N := some 46) (v := ?_) (a' := ?_) #[true, true, true, true, true, true, true, true, true, true, true, true, true, true, true, true, true, false, false] rfl rfl (by kernel_rfl) (fun _ _ _ h => h) (Or.inl ⟨by rfl, ?_⟩) ?_ ?_
                      rotate_left
                      · intro w'
                        go_simp
                        first | with_reducible rfl | (simp [Instr.field, asAgg, Go.part, run_underlying hu41, run_underlying hu42, run_underlying hu43, run_underlying hu45]; rfl) | rfl
                      rotate_left
                      · simp only [Act.put, List.setIfInBounds_toArray, List.set_cons_zero, List.set_cons_succ, i64_w, i32_w]
                        rfl
                      refine pure_ (i := 17) (N := some 47) (v := ?_) (a' := ?_) #[true, true, true, true, true, true, true, true, true, true, true, true, true, true, true, true, true, true, false] rfl rfl (by kernel_rfl) (fun _ _ _ h => h) (Or.inl ⟨by rfl, ?_⟩) ?_ ?_
                      rotate_left
                      · intro w'
                        go_simp
                        first | with_reducible rfl | (simp [Instr.field, asAgg, Go.part, run_underlying hu41, run_underlying hu42, run_underlying hu43, run_underlying hu45]; rfl) | rfl
                      rotate_left
                      · simp only [Act.put, List.setIfInBounds_toArray, List.set_cons_zero, List.set_cons_succ, i64_w, i32_w]
                        rfl
                      have p108_0 : 0 ≤ (x8_59 : Int) := of_decide_eq_true (by first | (with_reducible assumption) | assumption)
                      have q108_0 : (x8_59 : Int) < 6 := of_decide_eq_true (by first | (with_reducible assumption) | assumption)
                      have p108_1 : 0 ≤ (ji55_ : Int) := of_decide_eq_true (by first | (with_reducible assumption) | assumption)
                      have q108_1 : (ji55_ : Int) < 6 := of_decide_eq_true (by first | (with_reducible assumption) | assumption)
                      have o108 : 6 + x8_59.toNat * 6 + ji55_.toNat < m3_59.length := (by have h_ : m3_59.length = 258 := HLm3_59.out; rw [h_]; omega)
                      have hx108 := xcellI (HM.out.box 0 rfl) (6 + x8_59.toNat * 6 + ji55_.toNat) o108
                      clear o108
                      replace p108_0 := eq_true p108_0
                      replace q108_0 := eq_true q108_0
                      replace p108_1 := eq_true p108_1
                      replace q108_1 := eq_true q108_1
                      have hf108 := blk_frozen (HM.out.box 0 rfl) (6 + x8_59.toNat * 6 + ji55_.toNat)
                      refine last_ (i := 18) (N := none) #[true, true, true, true, true, true, true, true, true, true, true, true, true, true, true, true, true, true, true] rfl rfl (by kernel_rfl) (by decide) (fun K hK => ?_)
                      refine skip_ (w1 := w66_.setCell ⟨gb3, 6 + x8_59.toNat * 6 + ji55_.toNat, none⟩ (.int .i64 (wrap64 ((l0.getD (6 + x8_59.toNat * 6 + ji55_.toNat) 0) + (wrap64 (1 * (l0.getD (x8_59.toNat) 0))))))) (by rfl) rfl ?_ ?_
                      · first | (go_simp; done) | (go_simp; rfl)
                      generalize hw : w66_.setCell ⟨gb3, 6 + x8_59.toNat * 6 + ji55_.toNat, none⟩ (.int .i64 (wrap64 ((l0.getD (6 + x8_59.toNat * 6 + ji55_.toNat) 0) + (wrap64 (1 * (l0.getD (x8_59.toNat) 0)))))) = w67_
                      have n_ : Aside0 (MS w w67_ [.box gb3 45 (ics y107), .box gb2 45 (ics (List.replicate 258 0)), .box gb1 45 (ics l0)]) := ⟨by rw [← hw]; exact HM.out.setBox 0 rfl _ _ (by rw [ics_set, ← Ny107.out])⟩
                      clear HM hw
                      have HM := n_
                      clear n_
                      refine hK.out _ _ ?_
                      clear hK K
                      refine done_ (by kernel_rfl) ?_
                      have H := H'.out
                      clear H'
                      have H' := Aside0.mk H
                      clear H
                      go_wp2
                      go_loopg [9] k61_ (fun kq v9 w' => ∃ (x9_68 : Int) (m3_68 : List Int), v9 = .int .i64 x9_68 ∧ Aside0 (spec_l8Behind.l1 kq a1 ji55_ 1 x8_59 x9_68 m3_68 l0 = some r) ∧ Aside0 (kq ≤ k61_) ∧ Aside0 (m3_68.length = 258) ∧ Aside0 (MS w w' [.box gb3 45 (ics m3_68), .box gb2 45 (ics (List.replicate 258 0)), .box gb1 45 (ics l0)]))
                      case atStart => exact ⟨(0), (y107), (by first | rfl | (simp; done) | (simp only [i64_w]; done) | (simp [i64_w]; done) | (simp [*]; done)), H', ⟨Nat.le_refl _⟩, ⟨(show y107.length = 258 from by rw [Ny107.out, List.length_set]; exact HLm3_59.out)⟩, HM⟩
                      case round =>
                        clear H'
                        clear HM
                        obtain ⟨x9_68, m3_68, rfl, HA, HK69_, HLm3_68, HM⟩ := hrel
                        cases gk with
                        | zero => exact absurd HA.out (by simp [spec_l8Behind.l1])
                        | succ k70_ =>
                          have H := HA.out
                          clear HA
                          simp only [spec_l8Behind.l1] at H
                          by_cases c71_ : x9_68 < 6
                          · rw [if_pos c71_] at H
                            have c71_b0 : decide (x9_68 < 6) = true := decide_eq_true c71_
                            clear c71_
                            by_cases c72_ : 0 ≤ x8_59
                            · rw [if_pos c72_] at H
                              have c72_b0 : decide (0 ≤ x8_59) = true := decide_eq_true c72_
                              clear c72_
                              by_cases c73_ : x8_59 < 6
                              · rw [if_pos c73_] at H
                                have c73_b0 : decide (x8_59 < 6) = true := decide_eq_true c73_
                                clear c73_
                                by_cases c74_ : 0 ≤ x9_68
                                · rw [if_pos c74_] at H
                                  have c74_b0 : decide (0 ≤ x9_68) = true := decide_eq_true c74_
                                  clear c74_
                                  by_cases c75_ : 0 ≤ ji55_
                                  · rw [if_pos c75_] at H
                                    have c75_b0 : decide (0 ≤ ji55_) = true := decide_eq_true c75_
                                    clear c75_
                                    by_cases c76_ : ji55_ < 6
                                    · rw [if_pos c76_] at H
                                      have c76_b0 : decide (ji55_ < 6) = true := decide_eq_true c76_
                                      clear c76_
                                      obtain ⟨y111, hy111⟩ : ∃ y_, y_ = (m3_68.set (42 + x8_59.toNat * 36 + x9_68.toNat * 6 + ji55_.toNat) (wrap64 ((l0.getD (42 + x8_59.toNat * 36 + x9_68.toNat * 6 + ji55_.toNat) 0) + (wrap64 (1 * (l0.getD (6 + x8_59.toNat * 6 + x9_68.toNat) 0)))))) := ⟨_, rfl⟩
                                      replace H : (spec_l8Behind.l1 k70_ a1 ji55_ 1 x8_59 (wrap64 (x9_68 + 1)) y111 l0) = some r := by first | (rw [hy111]; with_reducible exact H) | (have H2_ := (Option.bind_some _ _).symm.trans H; rw [hy111]; with_reducible exact H2_) | (have H2_ := (Option.bind_some _ _).symm.trans H; with_reducible exact H2_) | with_reducible exact H | (rw [hy111]; exact H) | exact H
                                      have Ny111 := Aside0.mk hy111
                                      clear hy111
                                      have H' := Aside0.mk H
                                      clear H
                                      go_wp2
                                      have p109_0 : 0 ≤ (x8_59 : Int) := of_decide_eq_true (by first | (with_reducible assumption) | assumption)
                                      have q109_0 : (x8_59 : Int) < 6 := of_decide_eq_true (by first | (with_reducible assumption) | assumption)
                                      have p109_1 : 0 ≤ (x9_68 : Int) := of_decide_eq_true (by first | (with_reducible assumption) | assumption)
                                      have q109_1 : (x9_68 : Int) < 6 := of_decide_eq_true (by first | (with_reducible assumption) | assumption)
                                      have p109_2 : 0 ≤ (ji55_ : Int) := of_decide_eq_true (by first | (with_reducible assumption) | assumption)
                                      have q109_2 : (ji55_ : Int) < 6 := of_decide_eq_true (by first | (with_reducible assumption) | assumption)
                                      have o109 : 42 + x8_59.toNat * 36 + x9_68.toNat * 6 + ji55_.toNat < l0.length := (by have h_ : l0.length = 258 := HL0.out; rw [h_]; omega)
                                      have hx109 := xcellI (HM.out.box 2 rfl) (42 + x8_59.toNat * 36 + x9_68.toNat * 6 + ji55_.toNat) o109
                                      have ho109 := Aside0.mk o109
                                      clear o109
                                      replace p109_0 := eq_true p109_0
                                      replace q109_0 := eq_true q109_0
                                      replace p109_1 := eq_true p109_1
                                      replace q109_1 := eq_true q109_1
                                      replace p109_2 := eq_true p109_2
                                      replace q109_2 := eq_true q109_2
                                      have p110_0 : 0 ≤ (x8_59 : Int) := of_decide_eq_true (by first | (with_reducible assumption) | assumption)
                                      have q110_0 : (x8_59 : Int) < 6 := of_decide_eq_true (by first | (with_reducible assumption) | assumption)
                                      have p110_1 : 0 ≤ (x9_68 : Int) := of_decide_eq_true (by first | (with_reducible assumption) | assumption)
                                      have q110_1 : (x9_68 : Int) < 6 := of_decide_eq_true (by first | (with_reducible assumption) | assumption)
                                      have o110 : 6 + x8_59.toNat * 6 + x9_68.toNat < l0.length := (by have h_ : l0.length = 258 := HL0.out; rw [h_]; omega)
                                      have hx110 := xcellI (HM.out.box 2 rfl) (6 + x8_59.toNat * 6 + x9_68.toNat) o110
                                      have ho110 := Aside0.mk o110
                                      clear o110
                                      replace p110_0 := eq_true p110_0
                                      replace q110_0 := eq_true q110_0
                                      replace p110_1 := eq_true p110_1
                                      replace q110_1 := eq_true q110_1
                                      have n_ := Aside0.mk (HM.out.step (below_drew1 (Below.refl wr.heap.size wr)))
                                      clear HM
                                      have HM := n_
                                      clear n_
                                      refine start_ (n := 25) (S := fun w' => (w'.cell? ⟨gb1, 42 + x8_59.toNat * 36 + x9_68.toNat * 6 + ji55_.toNat, none⟩ = some (.int .i64 (l0.getD (42 + x8_59.toNat * 36 + x9_68.toNat * 6 + ji55_.toNat) 0))) ∧ (w'.cell? ⟨gb1, 6 + x8_59.toNat * 6 + x9_68.toNat, none⟩ = some (.int .i64 (l0.getD (6 + x8_59.toNat * 6 + x9_68.toNat) 0)))) (ds := [24]) #[false, false, false, false, false, false, false, false, false, false, false, false, false, false, false, false, false, false, false, false, false, false, false, false, false] (by kernel_rfl) rfl rfl (⟨xcellI (HM.out.box 2 rfl) (42 + x8_59.toNat * 36 + x9_68.toNat * 6 + ji55_.toNat) ho109.out, xcellI (HM.out.box 2 rfl) (6 + x8_59.toNat * 6 + x9_68.toNat) ho110.out⟩) (fun hHeld => ?_)
                                      generalize wr.drew = w77_ at HM hHeld ⊢
                                      refine pure_ (i := 0) (N := some 52) (v := ?_) (a' := ?_) #[true, false, false, false, false, false, false, false, false, false, false, false, false, false, false, false, false, false, false, false, false, false, false, false, false] rfl rfl (by kernel_rfl) (fun _ _ _ h => h) (Or.inl ⟨by rfl, ?_⟩) ?_ ?_
                                      rotate_left
                                      · intro w'
                                        go_simp
                                        first | with_reducible rfl | (simp [Instr.field, asAgg, Go.part, run_underlying hu41, run_underlying hu42, run_underlying hu43, run_underlying hu45]; rfl) | rfl
                                      rotate_left
                                      · simp only [Act.put, List.setIfInBounds_toArray, List.set_cons_zero, List.set_cons_succ, i64_w, i32_w]
                                        rfl
                                      refine pure_ (i := 1) (N := some 53) (v := ?_) (a' := ?_) #[true, true, false, false, false, false, false, false, false, false, false, false, false, false, false, false, false, false, false, false, false, false, false, false, false] rfl rfl (by kernel_rfl) (fun _ _ _ h => h) (Or.inl ⟨by rfl, ?_⟩) ?_ ?_
                                      rotate_left
                                      · intro w'
                                        go_simp
                                        first | with_reducible rfl | (simp [Instr.field, asAgg, Go.part, run_underlying hu41, run_underlying hu42, run_underlying hu43, run_underlying hu45]; rfl) | rfl
                                      rotate_left
                                      · simp only [Act.put, List.setIfInBounds_toArray, List.set_cons_zero, List.set_cons_succ, i64_w, i32_w]
                                        rfl
                                      refine pure_ (i := 2) (N := some 54) (v := ?_) (a' := ?_) #[true, true, true, false, false, false, false, false, false, false, false, false, false, false, false, false, false, false, false, false, false, false, false, false, false] rfl rfl (by kernel_rfl) (fun _ _ _ h => h) (Or.inl ⟨by rfl, ?_⟩) ?_ ?_
                                      rotate_left
                                      · intro w'
                                        go_simp
                                        first | with_reducible rfl | (simp [Instr.field, asAgg, Go.part, run_underlying hu41, run_underlying hu42, run_underlying hu43, run_underlying hu45]; rfl) | rfl
                                      rotate_left
                                      · simp only [Act.put, List.setIfInBounds_toArray, List.set_cons_zero, List.set_cons_succ, i64_w, i32_w]
                                        rfl
                                      refine pure_ (i := 3) (N := some 55) (v := ?_) (a' := ?_) #[true, true, true, true, false, false, false, false, false, false, false, false, false, false, false, false, false, false, false, false, false, false, false, false, false] rfl rfl (by kernel_rfl) (fun _ _ _ h => h) (Or.inl ⟨by rfl, ?_⟩) ?_ ?_
                                      rotate_left
                                      · intro w'
                                        go_simp
                                        first | with_reducible rfl | (simp [Instr.field, asAgg, Go.part, run_underlying hu41, run_underlying hu42, run_underlying hu43, run_underlying hu45]; rfl) | rfl
                                      rotate_left
                                      · simp only [Act.put, List.setIfInBounds_toArray, List.set_cons_zero, List.set_cons_succ, i64_w, i32_w]
                                        rfl
                                      refine pure_ (i := 4) (N := some 56) (v := ?_) (a' := ?_) #[true, true, true, true, true, false, false, false, false, false, false, false, false, false, false, false, false, false, false, false, false, false, false, false, false] rfl rfl (by kernel_rfl) (fun _ _ _ h => h) (Or.inl ⟨by rfl, ?_⟩) ?_ ?_
                                      rotate_left
                                      · intro w'
                                        go_simp
                                        first | with_reducible rfl | (simp [Instr.field, asAgg, Go.part, run_underlying hu41, run_underlying hu42, run_underlying hu43, run_underlying hu45]; rfl) | rfl
                                      rotate_left
                                      · simp only [Act.put, List.setIfInBounds_toArray, List.set_cons_zero, List.set_cons_succ, i64_w, i32_w]
                                        rfl
                                      refine pure_ (i := 5) (N := some 57) (v := ?_) (a' := ?_) #[true, true, true, true, true, true, false, false, false, false, false, false, false, false, false, false, false, false, false, false, false, false, false, false, false] rfl rfl (by kernel_rfl) (fun _ _ _ h => h) (Or.inl ⟨by rfl, ?_⟩) ?_ ?_
                                      rotate_left
                                      · intro w'
                                        go_simp
                                        first | with_reducible rfl | (simp [Instr.field, asAgg, Go.part, run_underlying hu41, run_underlying hu42, run_underlying hu43, run_underlying hu45]; rfl) | rfl
                                      rotate_left
                                      · simp only [Act.put, List.setIfInBounds_toArray, List.set_cons_zero, List.set_cons_succ, i64_w, i32_w]
                                        rfl
                                      refine pure_ (i := 6) (N := some 58) (v := ?_) (a' := ?_) #[true, true, true, true, true, true, true, false, false, false, false, false, false, false, false, false, false, false, false, false, false, false, false, false, false] rfl rfl (by kernel_rfl) (fun _ _ _ h => h) (Or.inl ⟨by rfl, ?_⟩) ?_ ?_
                                      rotate_left
                                      · intro w'
                                        go_simp
                                        first | with_reducible rfl | (simp [Instr.field, asAgg, Go.part, run_underlying hu41, run_underlying hu42, run_underlying hu43, run_underlying hu45]; rfl) | rfl
                                      rotate_left
                                      · simp only [Act.put, List.setIfInBounds_toArray, List.set_cons_zero, List.set_cons_succ, i64_w, i32_w]
                                        rfl
                                      refine pure_ (i := 7) (N := some 59) (v := ?_) (a' := ?_) #[true, true, true, true, true, true, true, true, false, false, false, false, false, false, false, false, false, false, false, false, false, false, false, false, false] rfl rfl (by kernel_rfl) (fun _ _ _ h => h) (Or.inl ⟨by rfl, ?_⟩) ?_ ?_
                                      rotate_left
                                      · intro w'
                                        go_simp
                                        first | with_reducible rfl | (simp [Instr.field, asAgg, Go.part, run_underlying hu41, run_underlying hu42, run_underlying hu43, run_underlying hu45]; rfl) | rfl
                                      rotate_left
                                      · simp only [Act.put, List.setIfInBounds_toArray, List.set_cons_zero, List.set_cons_succ, i64_w, i32_w]
                                        rfl
                                      refine pure_ (i := 8) (N := some 60) (v := ?_) (a' := ?_) #[true, true, true, true, true, true, true, true, true, false, false, false, false, false, false, false, false, false, false, false, false, false, false, false, false] rfl rfl (by kernel_rfl) (fun _ _ _ h => h) (Or.inl ⟨by rfl, ?_⟩) ?_ ?_
                                      rotate_left
                                      · intro w'
                                        go_simp
                                        first | with_reducible rfl | (simp [Instr.field, asAgg, Go.part, run_underlying hu41, run_underlying hu42, run_underlying hu43, run_underlying hu45]; rfl) | rfl
                                      rotate_left
                                      · simp only [Act.put, List.setIfInBounds_toArray, List.set_cons_zero, List.set_cons_succ, i64_w, i32_w]
                                        rfl
                                      refine pure_ (i := 9) (N := some 61) (v := ?_) (a' := ?_) #[true, true, true, true, true, true, true, true, true, true, false, false, false, false, false, false, false, false, false, false, false, false, false, false, false] rfl rfl (by kernel_rfl) (fun _ _ _ h => h) (Or.inl ⟨by rfl, ?_⟩) ?_ ?_
                                      rotate_left
                                      · intro w'
                                        go_simp
                                        first | with_reducible rfl | (simp [Instr.field, asAgg, Go.part, run_underlying hu41, run_underlying hu42, run_underlying hu43, run_underlying hu45]; rfl) | rfl
                                      rotate_left
                                      · simp only [Act.put, List.setIfInBounds_toArray, List.set_cons_zero, List.set_cons_succ, i64_w, i32_w]
                                        rfl
                                      refine take_ (i := 10) (N := some 62) (v := ?_) (a' := ?_) #[true, true, true, true, true, true, true, true, true, true, true, false, false, false, false, false, false, false, false, false, false, false, false, false, false] rfl rfl (by kernel_rfl) (fun _ _ _ h => h) (Or.inl ⟨by rfl, ?_⟩) hHeld ?_ ?_
                                      rotate_left
                                      · intro w' s0
                                        obtain ⟨s0_, s1_⟩ := s0
                                        go_simp
                                        first | with_reducible rfl | (simp [Instr.field, asAgg, Go.part, run_underlying hu41, run_underlying hu42, run_underlying hu43, run_underlying hu45]; rfl) | rfl
                                      rotate_left
                                      · simp only [Act.put, List.setIfInBounds_toArray, List.set_cons_zero, List.set_cons_succ, i64_w, i32_w]
                                        rfl
                                      refine pure_ (i := 11) (N := some 63) (v := ?_) (a' := ?_) #[true, true, true, true, true, true, true, true, true, true, true, true, false, false, false, false, false, false, false, false, false, false, false, false, false] rfl rfl (by kernel_rfl) (fun _ _ _ h => h) (Or.inl ⟨by rfl, ?_⟩) ?_ ?_
                                      rotate_left
                                      · intro w'
                                        go_simp
                                        first | with_reducible rfl | (simp [Instr.field, asAgg, Go.part, run_underlying hu41, run_underlying hu42, run_underlying hu43, run_underlying hu45]; rfl) | rfl
                                      rotate_left
                                      · simp only [Act.put, List.setIfInBounds_toArray, List.set_cons_zero, List.set_cons_succ, i64_w, i32_w]
                                        rfl
                                      refine pure_ (i := 12) (N := some 64) (v := ?_) (a' := ?_) #[true, true, true, true, true, true, true, true, true, true, true, true, true, false, false, false, false, false, false, false, false, false, false, false, false] rfl rfl (by kernel_rfl) (fun _ _ _ h => h) (Or.inl ⟨by rfl, ?_⟩) ?_ ?_
                                      rotate_left
                                      · intro w'
                                        go_simp
                                        first | with_reducible rfl | (simp [Instr.field, asAgg, Go.part, run_underlying hu41, run_underlying hu42, run_underlying hu43, run_underlying hu45]; rfl) | rfl
                                      rotate_left
                                      · simp only [Act.put, List.setIfInBounds_toArray, List.set_cons_zero, List.set_cons_succ, i64_w, i32_w]
                                        rfl
                                      refine pure_ (i := 13) (N := some 65) (v := ?_) (a' := ?_) #[true, true, true, true, true, true, true, true, true, true, true, true, true, true, false, false, false, false, false, false, false, false, false, false, false] rfl rfl (by kernel_rfl) (fun _ _ _ h => h) (Or.inl ⟨by rfl, ?_⟩) ?_ ?_
                                      rotate_left
                                      · intro w'
                                        go_simp
                                        first | with_reducible rfl | (simp [Instr.field, asAgg, Go.part, run_underlying hu41, run_underlying hu42, run_underlying hu43, run_underlying hu45]; rfl) | rfl
                                      rotate_left
                                      · simp only [Act.put, List.setIfInBounds_toArray, List.set_cons_zero, List.set_cons_succ, i64_w, i32_w]
                                        rfl
                                      refine pure_ (i := 14) (N := some 66) (v := ?_) (a' := ?_) #[true, true, true, true, true, true, true, true, true, true, true, true, true, true, true, false, false, false, false, false, false, false, false, false, false] rfl rfl (by kernel_rfl) (fun _ _ _ h => h) (Or.inl ⟨by rfl, ?_⟩) ?_ ?_
                                      rotate_left
                                      · intro w'
                                        go_simp
                                        first | with_reducible rfl | (simp [Instr.field, asAgg, Go.part, run_underlying hu41, run_underlying hu42, run_underlying hu43, run_underlying hu45]; rfl) | rfl
                                      rotate_left
                                      · simp only [Act.put, List.setIfInBounds_toArray, List.set_cons_zero, List.set_cons_succ, i64_w, i32_w]
                                        rfl
                                      refine pure_ (i := 15) (N := some 67) (v := ?_) (a' := ?_) #[true, true, true, true, true, true, true, true, true, true, true, true, true, true, true, true, false, false, false, false, false, false, false, false, false] rfl rfl (by kernel_rfl) (fun _ _ _ h => h) (Or.inl ⟨by rfl, ?_⟩) ?_ ?_
                                      rotate_left
                                      · intro w'
                                        go_simp
                                        first | with_reducible rfl | (simp [Instr.field, asAgg, Go.part, run_underlying hu41, run_underlying hu42, run_underlying hu43, run_underlying hu45]; rfl) | rfl
                                      rotate_left
                                      · simp only [Act.put, List.setIfInBounds_toArray, List.set_cons_zero, List.set_cons_succ, i64_w, i32_w]
                                        rfl
                                      refine pure_ (i := 16) (N := some 68) (v := ?_) (a' := ?_) #[true, true, true, true, true, true, true, true, true, true, true, true, true, true, true, true, true, false, false, false, false, false, false, false, false] rfl rfl (by kernel_rfl) (fun _ _ _ h => h) (Or.inl ⟨by rfl, ?_⟩) ?_ ?_
                                      rotate_left
                                      · intro w'
                                        go_simp
                                        first | with_reducible rfl | (simp [Instr.field, asAgg, Go.part, run_underlying hu41, run_underlying hu42, run_underlying hu43, run_underlying hu45]; rfl) | rfl
                                      rotate_left
                                      · simp only [Act.put, List.setIfInBounds_toArray, List.set_cons_zero, List.set_cons_succ, i64_w, i32_w]
                                        rfl
                                      refine take_ (i := 17) (N := some 69) (v := ?_) (a' := ?_) #[true, true, true, true, true, true, true, true, true, true, true, true, true, true, true, true, true, true, false, false, false, false, false, false, false] rfl rfl (by kernel_rfl) (fun _ _ _ h => h) (Or.inl ⟨by rfl, ?_⟩) hHeld ?_ ?_
                                      rotate_left
                                      · intro w' s0
                                        obtain ⟨s0_, s1_⟩ := s0
                                        go_simp
                                        first | with_reducible rfl | (simp [Instr.field, asAgg, Go.part, run_underlying hu41, run_underlying hu42, run_underlying hu43, run_underlying hu45]; rfl) | rfl
                                      rotate_left
                                      · simp only [Act.put, List.setIfInBounds_toArray, List.set_cons_zero, List.set_cons_succ, i64_w, i32_w]
                                        rfl
                                      refine pure_ (i := 18) (N := some 70) (v := ?_) (a' := ?_) #[true, true, true, true, true, true, true, true, true, true, true, true, true, true, true, true, true, true, true, false, false, false, false, false, false] rfl rfl (by kernel_rfl) (fun _ _ _ h => h) (Or.inl ⟨by rfl, ?_⟩) ?_ ?_
                                      rotate_left
                                      · intro w'
                                        go_simp
                                        first | with_reducible rfl | (simp [Instr.field, asAgg, Go.part, run_underlying hu41, run_underlying hu42, run_underlying hu43, run_underlying hu45]; rfl) | rfl
                                      rotate_left
                                      · simp only [Act.put, List.setIfInBounds_toArray, List.set_cons_zero, List.set_cons_succ, i64_w, i32_w]
                                        rfl
                                      refine pure_ (i := 19) (N := some 71) (v := ?_) (a' := ?_) #[true, true, true, true, true, true, true, true, true, true, true, true, true, true, true, true, true, true, true, true, false, false, false, false, false] rfl rfl (by kernel_rfl) (fun _ _ _ h => h) (Or.inl ⟨by rfl, ?_⟩) ?_ ?_
                                      rotate_left
                                      · intro w'
                                        go_simp
                                        first | with_reducible rfl | (simp [Instr.field, asAgg, Go.part, run_underlying hu41, run_underlying hu42, run_underlying hu43, run_underlying hu45]; rfl) | rfl
                                      rotate_left
                                      · simp only [Act.put, List.setIfInBounds_toArray, List.set_cons_zero, List.set_cons_succ, i64_w, i32_w]
                                        rfl
                                      refine pure_ (i := 20) (N := some 72) (v := ?_) (a' := ?_) #[true, true, true, true, true, true, true, true, true, true, true, true, true, true, true, true, true, true, true, true, true, false, false, false, false] rfl rfl (by kernel_rfl) (fun _ _ _ h => h) (Or.inl ⟨by rfl, ?_⟩) ?_ ?_
                                      rotate_left
                                      · intro w'
                                        go_simp
                                        first | with_reducible rfl | (simp [Instr.field, asAgg, Go.part, run_underlying hu41, run_underlying hu42, run_underlying hu43, run_underlying hu45]; rfl) | rfl
                                      rotate_left
                                      · simp only [Act.put, List.setIfInBounds_toArray, List.set_cons_zero, List.set_cons_succ, i64_w, i32_w]
                                        rfl
                                      refine pure_ (i := 21) (N := some 73) (v := ?_) (a' := ?_) #[true, true, true, true, true, true, true, true, true, true, true, true, true, true, true, true, true, true, true, true, true, true, false, false, false] rfl rfl (by kernel_rfl) (fun _ _ _ h => h) (Or.inl ⟨by rfl, ?_⟩) ?_ ?_
                                      rotate_left
                                      · intro w'
                                        go_simp
                                        first | with_reducible rfl | (simp [Instr.field, asAgg, Go.part, run_underlying hu41, run_underlying hu42, run_underlying hu43, run_underlying hu45]; rfl) | rfl
                                      rotate_left
                                      · simp only [Act.put, List.setIfInBounds_toArray, List.set_cons_zero, List.set_cons_succ, i64_w, i32_w]
                                        rfl
                                      refine pure_ (i := 22) (N := some 74) (v := ?_) (a' := ?_) #[true, true, true, true, true, true, true, true, true, true, true, true, true, true, true, true, true, true, true, true, true, true, true, false, false] rfl rfl (by kernel_rfl) (fun _ _ _ h => h) (Or.inl ⟨by rfl, ?_⟩) ?_ ?_
                                      rotate_left
                                      · intro w'
                                        go_simp
                                        first | with_reducible rfl | (simp [Instr.field, asAgg, Go.part, run_underlying hu41, run_underlying hu42, run_underlying hu43, run_underlying hu45]; rfl) | rfl
                                      rotate_left
                                      · simp only [Act.put, List.setIfInBounds_toArray, List.set_cons_zero, List.set_cons_succ, i64_w, i32_w]
                                        rfl
                                      refine pure_ (i := 23) (N := some 75) (v := ?_) (a' := ?_) #[true, true, true, true, true, true, true, true, true, true, true, true, true, true, true, true, true, true, true, true, true, true, true, true, false] rfl rfl (by kernel_rfl) (fun _ _ _ h => h) (Or.inl ⟨by rfl, ?_⟩) ?_ ?_
                                      rotate_left
                                      · intro w'
                                        go_simp
                                        first | with_reducible rfl | (simp [Instr.field, asAgg, Go.part, run_underlying hu41, run_underlying hu42, run_underlying hu43, run_underlying hu45]; rfl) | rfl
                                      rotate_left
                                      · simp only [Act.put, List.setIfInBounds_toArray, List.set_cons_zero, List.set_cons_succ, i64_w, i32_w]
                                        rfl
                                      have p112_0 : 0 ≤ (x8_59 : Int) := of_decide_eq_true (by first | (with_reducible assumption) | assumption)
                                      have q112_0 : (x8_59 : Int) < 6 := of_decide_eq_true (by first | (with_reducible assumption) | assumption)
                                      have p112_1 : 0 ≤ (x9_68 : Int) := of_decide_eq_true (by first | (with_reducible assumption) | assumption)
                                      have q112_1 : (x9_68 : Int) < 6 := of_decide_eq_true (by first | (with_reducible assumption) | assumption)
                                      have p112_2 : 0 ≤ (ji55_ : Int) := of_decide_eq_true (by first | (with_reducible assumption) | assumption)
                                      have q112_2 : (ji55_ : Int) < 6 := of_decide_eq_true (by first | (with_reducible assumption) | assumption)
                                      have o112 : 42 + x8_59.toNat * 36 + x9_68.toNat * 6 + ji55_.toNat < m3_68.length := (by have h_ : m3_68.length = 258 := HLm3_68.out; rw [h_]; omega)
                                      have hx112 := xcellI (HM.out.box 0 rfl) (42 + x8_59.toNat * 36 + x9_68.toNat * 6 + ji55_.toNat) o112
                                      clear o112
                                      replace p112_0 := eq_true p112_0
                                      replace q112_0 := eq_true q112_0
                                      replace p112_1 := eq_true p112_1
                                      replace q112_1 := eq_true q112_1
                                      replace p112_2 := eq_true p112_2
                                      replace q112_2 := eq_true q112_2
                                      have hf112 := blk_frozen (HM.out.box 0 rfl) (42 + x8_59.toNat * 36 + x9_68.toNat * 6 + ji55_.toNat)
                                      refine last_ (i := 24) (N := none) #[true, true, true, true, true, true, true, true, true, true, true, true, true, true, true, true, true, true, true, true, true, true, true, true, true] rfl rfl (by kernel_rfl) (by decide) (fun K hK => ?_)
                                      refine skip_ (w1 := w77_.setCell ⟨gb3, 42 + x8_59.toNat * 36 + x9_68.toNat * 6 + ji55_.toNat, none⟩ (.int .i64 (wrap64 ((l0.getD (42 + x8_59.toNat * 36 + x9_68.toNat * 6 + ji55_.toNat) 0) + (wrap64 (1 * (l0.getD (6 + x8_59.toNat * 6 + x9_68.toNat) 0))))))) (by rfl) rfl ?_ ?_
                                      · first | (go_simp; done) | (go_simp; rfl)
                                      generalize hw : w77_.setCell ⟨gb3, 42 + x8_59.toNat * 36 + x9_68.toNat * 6 + ji55_.toNat, none⟩ (.int .i64 (wrap64 ((l0.getD (42 + x8_59.toNat * 36 + x9_68.toNat * 6 + ji55_.toNat) 0) + (wrap64 (1 * (l0.getD (6 + x8_59.toNat * 6 + x9_68.toNat) 0)))))) = w78_
                                      have n_ : Aside0 (MS w w78_ [.box gb3 45 (ics y111), .box gb2 45 (ics (List.replicate 258 0)), .box gb1 45 (ics l0)]) := ⟨by rw [← hw]; exact HM.out.setBox 0 rfl _ _ (by rw [ics_set, ← Ny111.out])⟩
                                      clear HM hw
                                      have HM := n_
                                      clear n_
                                      refine hK.out _ _ ?_
                                      clear hK K
                                      refine done_ (by kernel_rfl) ?_
                                      have H := H'.out
                                      clear H'
                                      have H' := Aside0.mk H
                                      clear H
                                      go_wp2
                                      go_roundg k70_
                                      case measure => have hHK60__ := HK60_.out; have hHK69__ := HK69_.out; omega
                                      case rel => exact ⟨(wrap64 (x9_68 + 1)), (y111), (by first | rfl | (simp; done) | (simp only [i64_w]; done) | (simp [i64_w]; done) | (simp [*]; done)), H', ⟨by have hHK60__ := HK60_.out; have hHK69__ := HK69_.out; omega⟩, ⟨(show y111.length = 258 from by rw [Ny111.out, List.length_set]; exact HLm3_68.out)⟩, HM⟩
                                    · rw [if_neg c76_] at H
                                      have c76_b0 : decide (ji55_ < 6) = false := decide_eq_false c76_
                                      clear c76_
                                      exact absurd H (by simp)
                                  · rw [if_neg c75_] at H
                                    have c75_b0 : decide (0 ≤ ji55_) = false := decide_eq_false c75_
                                    clear c75_
                                    exact absurd H (by simp)
                                · rw [if_neg c74_] at H
                                  have c74_b0 : decide (0 ≤ x9_68) = false := decide_eq_false c74_
                                  clear c74_
                                  exact absurd H (by simp)
                              · rw [if_neg c73_] at H
                                have c73_b0 : decide (x8_59 < 6) = false := decide_eq_false c73_
                                clear c73_
                                exact absurd H (by simp)
                            · rw [if_neg c72_] at H
                              have c72_b0 : decide (0 ≤ x8_59) = false := decide_eq_false c72_
                              clear c72_
                              exact absurd H (by simp)
                          · rw [if_neg c71_] at H
                            have c71_b0 : decide (x9_68 < 6) = false := decide_eq_false c71_
                            clear c71_
                            have H' := Aside0.mk H
                            clear H
                            go_wp2
                            go_roundg k70_
                            case measure => have hHK60__ := HK60_.out; have hHK69__ := HK69_.out; omega
                            case rel => exact ⟨(wrap64 (x8_59 + 1)), (m3_68), (by first | rfl | (simp; done) | (simp only [i64_w]; done) | (simp [i64_w]; done) | (simp [*]; done)), H', ⟨by have hHK60__ := HK60_.out; have hHK69__ := HK69_.out; omega⟩, ⟨HLm3_68.out⟩, HM⟩
                    · rw [if_neg c65_] at H
                      have c65_b0 : decide (ji55_ < 6) = false := decide_eq_false c65_
                      clear c65_
                      exact absurd H (by simp)
                  · rw [if_neg c64_] at H
                    have c64_b0 : decide (0 ≤ ji55_) = false := decide_eq_false c64_
                    clear c64_
                    exact absurd H (by simp)
                · rw [if_neg c63_] at H
                  have c63_b0 : decide (0 ≤ x8_59) = false := decide_eq_false c63_
                  clear c63_
                  exact absurd H (by simp)
              · rw [if_neg c62_] at H
                have c62_b0 : decide (x8_59 < 6) = false := decide_eq_false c62_
                clear c62_
                rw [if_neg (show ¬ (a1 < 0) from by have h_ := KNc12_.out; first | exact h_ | omega)] at H
                obtain rfl := Option.some.inj H
                go_wp2_with (first | ((with_reducible refine gate_dst (N := 130) rfl ?_); refine wpList_load_row rfl _ _ rfl gb3 rfl 45 (ics m3_59) (0, 0) _ (HM.out.box 0 rfl) Try.underlying45 rfl (by rw [ics_size, HLm3_59.out]; kernel_rfl) ?_) | ((with_reducible refine gate_store (t := 45) (p := 4) rfl ?_); refine wpList_store_row rfl _ _ _ rfl gb2 (ics m3_59) rfl rfl 45 (ics (List.replicate 258 0)) (HM.out.box 1 rfl) (by rw [ics_size, HLm3_59.out]; kernel_rfl) ((ics_size _).trans (((List.length_replicate)).trans ((show _ = 258 from HLm3_59.out).symm.trans (ics_size _).symm))) (ics_one _) ?_; generalize hw : World.setRow _ _ _ = w79_; have n_ : Aside0 (MS w w79_ [.box gb3 45 (ics m3_59), .box gb2 45 (ics m3_59), .box gb1 45 (ics l0)]) := ⟨by rw [← hw]; exact HM.out.setRow 1 rfl _⟩; clear HM hw; have HM := n_; clear n_))
                refine bodyPost_ret (results_cell_row rfl _ _ gb2 45 (ics m3_59) (0, 0) _ rfl (HM.out.box 1 rfl) Try.underlying45 rfl (by rw [ics_size, HLm3_59.out]; kernel_rfl)) rfl ?_
                exact ⟨by first | rfl | (simp; done) | (simp only [i64_w]; done) | (simp [i64_w]; done) | (simp [*]; done), HLm3_59.out, HM.out.below⟩
        · rw [if_neg c57_] at H
          have c57_b0 : decide (ji55_ < 6) = false := decide_eq_false c57_
          clear c57_
          exact absurd H (by simp)
      · rw [if_neg c56_] at H
        have c56_b0 : decide (0 ≤ ji55_) = false := decide_eq_false c56_
        clear c56_
        exact absurd H (by simp)

/-! ### spec_l8Of: function 30 -/
def spec_l8Of.l0 : Nat → (List Int) → (Int) → (List Int) → Option (List Int)
  | 0, _, _, _ => none
  | k + 1, x0, x4, m2 => if x4 < (x0.length : Int) then (if 0 ≤ x4 then ((spec_l8Behind.f k m2 (rd x0 x4)).bind fun t127 => (spec_l8Of.l0 k x0 (wrap64 (x4 + 1)) t127)) else (none)) else (some m2)
def spec_l8Of.f (k : Nat) (l0 : List Int) : Option (List Int) := spec_l8Of.l0 k l0 0 (List.replicate 258 0)
set_option maxHeartbeats 8000000 in
set_option maxRecDepth 100000 in
theorem spec_l8Of.calls (k : Nat) (A0 : Option Addr) (c0 : Nat) (l0 : List Int) (r : List Int) (w : World) (hr0 : Kd.C (Kd.int .i64) w A0 l0.length l0) (hc0 : l0.length ≤ c0) (h : spec_l8Of.f k l0 = some r) :
    Calls Try.prog 30 #[.slice A0 l0.length c0] w fun e w' => e = .returned (.agg (ics r)) ∧ r.length = 258 ∧ Below w.heap.size w w' := by
  have HR0 := Aside0.mk hr0
  have HC0 := Aside0.mk hc0
  clear hr0 hc0
  have hu22 := Try.underlying22
  have hu45 := Try.underlying45
  have HM := Aside0.mk (MS.start w)
  have H : (spec_l8Of.l0 k l0 0 (List.replicate 258 0)) = some r := h
  clear h
  have H' := Aside0.mk H
  clear H
  go_enter Try.func30, Try.ntmps30
  go_wp2_with (first | ((with_reducible refine gate_dst (N := 2) rfl ?_); refine box_event ?hg (N := 2) ?hd (cs := (ics (List.replicate 258 0))) (t := 45) ?hr ?_; (case hd => rfl); (case hg => rfl); (case hr => first | (go_simp; done) | (go_simp; rfl)); intro gb1 hg w1_ hbox hb; have n_ := Aside0.mk (HM.out.addBox hb hbox hg); clear HM; have HM := n_; clear n_; clear hb hbox hg) | ((with_reducible refine gate_dst (N := 5) rfl ?_); refine build_zero ?hg (N := 5) ?hd (cs := (ics (List.replicate 258 0))) ?hr ?_; (case hd => rfl); (case hg => rfl); (case hr => first | (go_simp; done) | (go_simp; rfl))) | ((with_reducible refine gate_dst (N := 3) rfl ?_); refine box_event ?hg (N := 3) ?hd (cs := (ics (List.replicate 258 0))) (t := 45) ?hr ?_; (case hd => rfl); (case hg => rfl); (case hr => first | (go_simp; done) | (go_simp; rfl)); intro gb2 hg w2_ hbox hb; have n_ := Aside0.mk (HM.out.addBox hb hbox hg); clear HM; have HM := n_; clear n_; clear hb hbox hg) | ((with_reducible refine gate_store (t := 45) (p := 3) rfl ?_); refine wpList_store_row rfl _ _ _ rfl gb2 (ics (List.replicate 258 0)) rfl rfl 45 (ics (List.replicate 258 0)) (HM.out.box 0 rfl) (by rw [ics_size, (List.length_replicate)]; kernel_rfl) ((ics_size _).trans (((List.length_replicate)).trans ((show _ = 258 from (List.length_replicate)).symm.trans (ics_size _).symm))) (ics_one _) ?_; generalize hw : World.setRow _ _ _ = w3_; have n_ : Aside0 (MS w w3_ [.box gb2 45 (ics (List.replicate 258 0)), .box gb1 45 (ics (List.replicate 258 0))]) := ⟨by rw [← hw]; exact HM.out.setRow 0 rfl _⟩; clear HM hw; have HM := n_; clear n_))
  go_loopg [4] k (fun kq v4 w' => ∃ (x4_4 : Int) (m2_4 : List Int), v4 = .int .i64 x4_4 ∧ Aside0 (spec_l8Of.l0 kq l0 x4_4 m2_4 = some r) ∧ Aside0 (kq ≤ k) ∧ Aside0 (m2_4.length = 258) ∧ Aside0 (MS w w' [.box gb2 45 (ics m2_4), .box gb1 45 (ics (List.replicate 258 0))]))
  case atStart => exact ⟨(0), ((List.replicate 258 0)), (by first | rfl | (simp; done) | (simp only [i64_w]; done) | (simp [i64_w]; done) | (simp [*]; done)), H', ⟨Nat.le_refl _⟩, ⟨(List.length_replicate)⟩, HM⟩
  case round =>
    clear H'
    clear HM
    obtain ⟨x4_4, m2_4, rfl, HA, HK5_, HLm2_4, HM⟩ := hrel
    cases gk with
    | zero => exact absurd HA.out (by simp [spec_l8Of.l0])
    | succ k6_ =>
      have H := HA.out
      clear HA
      simp only [spec_l8Of.l0] at H
      by_cases c7_ : x4_4 < (l0.length : Int)
      · rw [if_pos c7_] at H
        have c7_b0 : decide (x4_4 < (l0.length : Int)) = true := decide_eq_true c7_
        clear c7_
        by_cases c8_ : 0 ≤ x4_4
        · rw [if_pos c8_] at H
          have c8_b0 : decide (0 ≤ x4_4) = true := decide_eq_true c8_
          clear c8_
          replace H := Option.bind_eq_some_iff.mp H
          obtain ⟨t127, A9_0, H⟩ := H
          replace H : (spec_l8Of.l0 k6_ l0 (wrap64 (x4_4 + 1)) t127) = some r := H
          have A9_ := Aside0.mk A9_0
          clear A9_0
          have H' := Aside0.mk H
          clear H
          go_wp2
          have p126 : 0 ≤ (x4_4 : Int) := of_decide_eq_true (by first | (with_reducible assumption) | assumption)
          have q126 : (x4_4 : Int) < (l0.length : Int) := of_decide_eq_true (by first | (with_reducible assumption) | assumption)
          obtain ⟨ad126, e126, hx126⟩ := Kd.at_int HR0.out x4_4 p126 q126
          cases e126
          have hz126 := Aside0.mk hx126
          replace hx126 := (HM.out.below.cell (World.block_lt_of_cell? w _ hx126)).trans hx126
          have hp126 := Aside0.mk p126
          have hq126 := Aside0.mk q126
          replace p126 := eq_true p126
          replace q126 := eq_true q126
          have n_ := Aside0.mk (HM.out.step (below_drew1 (Below.refl wr.heap.size wr)))
          clear HM
          have HM := n_
          clear n_
          refine start_ (n := 7) (S := fun w' => (w'.heap[gb2]? = some (.cells (ics m2_4) 45 (0, 0))) ∧ (w'.cell? (ad126.add (x4_4 : Int).toNat) = some (.int .i64 (rd l0 x4_4)))) (ds := [6]) #[false, false, false, false, false, false, false] (by kernel_rfl) rfl rfl (⟨(HM.out.box 0 rfl), (HM.out.below.cell (World.block_lt_of_cell? w _ hz126.out)).trans hz126.out⟩) (fun hHeld => ?_)
          generalize wr.drew = w10_ at HM hHeld ⊢
          refine take_ (i := 0) (N := some 12) (v := ?_) (a' := ?_) #[true, false, false, false, false, false, false] rfl rfl (by kernel_rfl) (fun _ _ _ h => h) (Or.inl ⟨by rfl, ?_⟩) hHeld ?_ ?_
          rotate_left
          · intro w' s0
            refine load_arr 45 (.tmp 3) ?hoe11_ gb2 ?hxe11_ 45 (ics m2_4) (0, 0) _ (s0.1) Try.underlying45 rfl (by rw [ics_size, HLm2_4.out]; kernel_rfl)
            (case hoe11_ => rfl)
            (case hxe11_ => rfl)
          rotate_left
          · simp only [Act.put, List.setIfInBounds_toArray, List.set_cons_zero, List.set_cons_succ, i64_w, i32_w]
            rfl
          refine pure_ (i := 1) (N := some 13) (v := ?_) (a' := ?_) #[true, true, false, false, false, false, false] rfl rfl (by kernel_rfl) (fun _ _ _ h => h) (Or.inl ⟨by rfl, ?_⟩) ?_ ?_
          rotate_left
          · intro w'
            go_simp
            first | with_reducible rfl | (simp [Instr.field, asAgg, Go.part, run_underlying hu22, run_underlying hu45]; rfl) | rfl
          rotate_left
          · simp only [Act.put, List.setIfInBounds_toArray, List.set_cons_zero, List.set_cons_succ, i64_w, i32_w]
            rfl
          refine pure_ (i := 2) (N := some 14) (v := ?_) (a' := ?_) #[true, true, true, false, false, false, false] rfl rfl (by kernel_rfl) (fun _ _ _ h => h) (Or.inl ⟨by rfl, ?_⟩) ?_ ?_
          rotate_left
          · intro w'
            go_simp
            first | with_reducible rfl | (simp [Instr.field, asAgg, Go.part, run_underlying hu22, run_underlying hu45]; rfl) | rfl
          rotate_left
          · simp only [Act.put, List.setIfInBounds_toArray, List.set_cons_zero, List.set_cons_succ, i64_w, i32_w]
            rfl
          refine pure_ (i := 3) (N := some 15) (v := ?_) (a' := ?_) #[true, true, true, true, false, false, false] rfl rfl (by kernel_rfl) (fun _ _ _ h => h) (Or.inl ⟨by rfl, ?_⟩) ?_ ?_
          rotate_left
          · intro w'
            go_simp
            first | with_reducible rfl | (simp [Instr.field, asAgg, Go.part, run_underlying hu22, run_underlying hu45]; rfl) | rfl
          rotate_left
          · simp only [Act.put, List.setIfInBounds_toArray, List.set_cons_zero, List.set_cons_succ, i64_w, i32_w]
            rfl
          refine take_ (i := 4) (N := some 16) (v := ?_) (a' := ?_) #[true, true, true, true, true, false, false] rfl rfl (by kernel_rfl) (fun _ _ _ h => h) (Or.inl ⟨by rfl, ?_⟩) hHeld ?_ ?_
          rotate_left
          · intro w' s0
            obtain ⟨s0_, s1_⟩ := s0
            go_simp
            first | with_reducible rfl | (simp [Instr.field, asAgg, Go.part, run_underlying hu22, run_underlying hu45]; rfl) | rfl
          rotate_left
          · simp only [Act.put, List.setIfInBounds_toArray, List.set_cons_zero, List.set_cons_succ, i64_w, i32_w]
            rfl
          refine one_ (i := 5) (N := some 17) #[true, true, true, true, true, true, false] rfl rfl (by kernel_rfl) (by decide) (fun K hK => ?_)
          refine goes_ Try.func48 (by kernel_rfl) rfl #[.agg (ics m2_4), .int .i64 (rd l0 x4_4)] (by rfl) rfl rfl (by (try simp only [List.map_toArray, List.map_cons, List.map_nil]); first | done | rfl | (simp only [List.length_drop, List.length_take]; rfl)) ?_
          with_reducible refine (spec_l8Behind.calls k6_ m2_4 (rd l0 x4_4) t127 _ ?sd0 A9_.out).mono ?_
          (case sd0 => exact HLm2_4.out)
          rintro e_ w12_ ⟨rfl, ho0_, hb⟩
          refine ⟨_, rfl, ?_⟩
          have HLt127 := Aside0.mk ho0_
          have n_ := Aside0.mk (HM.out.step hb)
          clear HM
          have HM := n_
          clear n_
          clear hb ho0_
          refine hK.out _ _ (⟨(HM.out.box 0 rfl), (HM.out.below.cell (World.block_lt_of_cell? w _ hz126.out)).trans hz126.out⟩) (fun hHeld => ?_)
          clear hK K
          refine norm_ (a' := ?_) ?_ ?_
          rotate_left
          · show Act.put _ (some 17) _ = _
            simp only [Act.put, List.setIfInBounds_toArray, List.set_cons_zero, List.set_cons_succ, i64_w, i32_w]
            rfl
          refine last_ (i := 6) (N := none) #[true, true, true, true, true, true, true] rfl rfl (by kernel_rfl) (by decide) (fun K hK => ?_)
          rw [if_pos (by rfl)]
          refine wp_store_row 45 (.tmp 3) (.tmp 17) rfl gb2 (ics t127) rfl rfl 45 (ics m2_4) (HM.out.box 0 rfl) (by rw [ics_size, HLt127.out]; kernel_rfl) ((ics_size _).trans ((HLm2_4.out).trans ((show _ = 258 from HLt127.out).symm.trans (ics_size _).symm))) (ics_one _) ?_
          generalize hw : World.setRow _ _ _ = w13_
          have n_ : Aside0 (MS w w13_ [.box gb2 45 (ics t127), .box gb1 45 (ics (List.replicate 258 0))]) := ⟨by rw [← hw]; exact HM.out.setRow 0 rfl _⟩
          clear HM hw
          have HM := n_
          clear n_
          refine (show K _ w13_ from ?_)
          refine hK.out _ _ ?_
          clear hK K
          refine done_ (by kernel_rfl) ?_
          have H := H'.out
          clear H'
          have H' := Aside0.mk H
          clear H
          go_wp2
          go_roundg k6_
          case measure => have hHK5__ := HK5_.out; omega
          case rel => exact ⟨(wrap64 (x4_4 + 1)), (t127), (by first | rfl | (simp; done) | (simp only [i64_w]; done) | (simp [i64_w]; done) | (simp [*]; done)), H', ⟨by have hHK5__ := HK5_.out; omega⟩, ⟨HLt127.out⟩, HM⟩
        · rw [if_neg c8_] at H
          have c8_b0 : decide (0 ≤ x4_4) = false := decide_eq_false c8_
          clear c8_
          exact absurd H (by simp)
      · rw [if_neg c7_] at H
        have c7_b0 : decide (x4_4 < (l0.length : Int)) = false := decide_eq_false c7_
        clear c7_
        obtain rfl := Option.some.inj H
        go_wp2_with (first | ((with_reducible refine gate_dst (N := 18) rfl ?_); refine wpList_load_row rfl _ _ rfl gb2 rfl 45 (ics m2_4) (0, 0) _ (HM.out.box 0 rfl) Try.underlying45 rfl (by rw [ics_size, HLm2_4.out]; kernel_rfl) ?_) | ((with_reducible refine gate_store (t := 45) (p := 2) rfl ?_); refine wpList_store_row rfl _ _ _ rfl gb1 (ics m2_4) rfl rfl 45 (ics (List.replicate 258 0)) (HM.out.box 1 rfl) (by rw [ics_size, HLm2_4.out]; kernel_rfl) ((ics_size _).trans (((List.length_replicate)).trans ((show _ = 258 from HLm2_4.out).symm.trans (ics_size _).symm))) (ics_one _) ?_; generalize hw : World.setRow _ _ _ = w14_; have n_ : Aside0 (MS w w14_ [.box gb2 45 (ics m2_4), .box gb1 45 (ics m2_4)]) := ⟨by rw [← hw]; exact HM.out.setRow 1 rfl _⟩; clear HM hw; have HM := n_; clear n_))
        refine bodyPost_ret (results_cell_row rfl _ _ gb1 45 (ics m2_4) (0, 0) _ rfl (HM.out.box 1 rfl) Try.underlying45 rfl (by rw [ics_size, HLm2_4.out]; kernel_rfl)) rfl ?_
        exact ⟨by first | rfl | (simp; done) | (simp only [i64_w]; done) | (simp [i64_w]; done) | (simp [*]; done), HLm2_4.out, HM.out.below⟩

end Go.Proofs.Ytblhjcdfccggfaa.Q
