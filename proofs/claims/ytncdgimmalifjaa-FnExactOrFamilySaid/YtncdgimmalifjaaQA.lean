-- Written by a program of this session's own (wip/wgen.py): what functions of the program compute, and that they do.
import Derived.Below
import Derived.Deep.Draws
import Derived.Deep.AppendLies
import Derived.Maps.AppendAt
import Derived.OwnWalk
import Derived.Laws.BytesArg
import Derived.Laws.MakeOwn
import Derived.Laws.OwnMore
import Derived.Deep.OwnRows
import Derived.Tactics
import Derived.Lib.ConvBytes
import Derived.Laws.Slices
import Derived.WalkKit
import Derived.KernelRfl
import Derived.RowKit3
import Derived.Deep.LoopGhost
import Derived.Deep.QuietTactic
import Derived.BigQuiet
import Derived.WideLaws
import Derived.Deep.DeepCutAuto
import Derived.Deep.CutBlock
import Derived.Deep.RegionHeld3
import Derived.Laws.Rows
import Derived.Lib.AppendStr
import Derived.ArgAppend
import Derived.Laws.IdiomCopy
import Derived.OrdersHeld
import Derived.Laws.BitsLemmas
import Derived.RowKit
import Derived.Test.YtncdgimmalifjaaHM
import Derived.Test.YtncdgimmalifjaaRG
import Derived.Test.YtncdgimmalifjaaProg
import Derived.Test.YtncdgimmalifjaaKL1
namespace Go.Proofs.Ytncdgimmalifjaa.Q
open Go.RowKit Go.Proofs.YtncdgimmalifjaaW.PrintWords Go.Proofs.YtncdgimmalifjaaW.PrintLast Go.Proofs.YtncdgimmalifjaaW.PrintMore Go.Proofs.YtncdgimmalifjaaM Go.Proofs.Ytncdgimmalifjaa.KL
attribute [local go_sem] max2_int min2_int max_two min_two max_three min_three max_four min_four
set_option linter.unusedVariables false
set_option linter.unusedSimpArgs false

theorem info3 : (Try.prog.info? 3).map (fun i => (i.zero, i.size, i.bytes)) = some (some (.int .i64 0), 1, 8) := by kernel_rfl
/-! ### spec_l1In: function 44 -/
def spec_l1In.f (a0 : Int) (a1 : Int) (a2 : Int) : Option (Bool) := if a0 ≥ a1 then (some (decide (a0 ≤ a2))) else (some false)
set_option maxHeartbeats 8000000 in
set_option maxRecDepth 100000 in
theorem spec_l1In.calls (a0 : Int) (a1 : Int) (a2 : Int) (r : Bool) (w : World)  (h : spec_l1In.f a0 a1 a2 = some r) :
    Calls Try.prog 44 #[.int .i64 a0, .int .i64 a1, .int .i64 a2] w fun e w' => e = .returned (.bool r) ∧ Drawn0 w w' := by
  have HM := Aside0.mk (MS.start w)
  have HD := Aside0.mk (Drawn0.refl w)
  have H : (if a0 ≥ a1 then (some (decide (a0 ≤ a2))) else (some false)) = some r := h
  clear h
  by_cases c1_ : a0 ≥ a1
  · rw [if_pos c1_] at H
    have c1_b0 : decide (a1 ≤ a0) = true := decide_eq_true c1_
    clear c1_
    obtain rfl := Option.some.inj H
    go_enter Try.func44, Try.ntmps44
    go_wp2
    go_ret
    exact ⟨by first | rfl | (simp; done) | (simp [*]; done), HD.out⟩
  · rw [if_neg c1_] at H
    have c1_b0 : decide (a1 ≤ a0) = false := decide_eq_false c1_
    clear c1_
    obtain rfl := Option.some.inj H
    go_enter Try.func44, Try.ntmps44
    go_wp2
    go_ret
    exact ⟨by first | rfl | (simp; done) | (simp [*]; done), HD.out⟩

/-! ### spec_l3Set: function 35 -/
def spec_l3Set.f (a0 : Int) : Option (Bool) := (spec_l1In.f a0 0 63).bind fun t101 => (some t101)
set_option maxHeartbeats 8000000 in
set_option maxRecDepth 100000 in
theorem spec_l3Set.calls (a0 : Int) (r : Bool) (w : World)  (h : spec_l3Set.f a0 = some r) :
    Calls Try.prog 35 #[.int .i64 a0] w fun e w' => e = .returned (.bool r) ∧ Drawn0 w w' := by
  have HM := Aside0.mk (MS.start w)
  have HD := Aside0.mk (Drawn0.refl w)
  have H : ((spec_l1In.f a0 0 63).bind fun t101 => (some t101)) = some r := h
  clear h
  replace H := Option.bind_eq_some_iff.mp H
  obtain ⟨t101, A1_0, H⟩ := H
  replace H : (some t101) = some r := H
  have A1_ := Aside0.mk A1_0
  clear A1_0
  obtain rfl := Option.some.inj H
  go_enter Try.func35, Try.ntmps35
  go_wp2_with (first | ((with_reducible refine gate_callee (f := 44) rfl ?_); (with_reducible refine gate_dst (N := 4) rfl ?_); refine goesL_ (some 4) rfl rfl Try.func44 (by kernel_rfl) rfl #[.int .i64 a0, .int .i64 0, .int .i64 63] rfl (by (try simp only [List.map_toArray, List.map_cons, List.map_nil]); first | done | rfl | (simp only [List.length_drop, List.length_take]; rfl)) ?_; (with_reducible refine (spec_l1In.calls a0 0 63 t101 _  A1_.out).mono ?_); rintro e_ w2_ ⟨rfl, hd_⟩; refine ⟨_, rfl, ?_⟩; have hb := hd_.below; have nd_ := Aside0.mk (HD.out.trans hd_); clear HD; have HD := nd_; clear nd_; clear hd_; have n_ := Aside0.mk (HM.out.step hb); clear HM; have HM := n_; clear n_; clear hb))
  go_ret
  exact ⟨by first | rfl | (simp; done) | (simp [*]; done), HD.out⟩

/-! ### spec_l5Part: function 72 -/
def spec_l5Part.f (a0 : Int) (a1 : Int) : Option (Bool) := some ((Go.bits .and .i64 a0 a1) == a0)
set_option maxHeartbeats 8000000 in
set_option maxRecDepth 100000 in
theorem spec_l5Part.calls (a0 : Int) (a1 : Int) (r : Bool) (w : World)  (h : spec_l5Part.f a0 a1 = some r) :
    Calls Try.prog 72 #[.int .i64 a0, .int .i64 a1] w fun e w' => e = .returned (.bool r) ∧ Drawn0 w w' := by
  have HM := Aside0.mk (MS.start w)
  have HD := Aside0.mk (Drawn0.refl w)
  have H : (some ((Go.bits .and .i64 a0 a1) == a0)) = some r := h
  clear h
  obtain rfl := Option.some.inj H
  go_enter Try.func72, Try.ntmps72
  go_wp2
  go_ret
  exact ⟨by first | rfl | (simp; done) | (simp [*]; done), HD.out⟩

/-! ### spec_l5Has: function 51 -/
def spec_l5Has.l0 : Nat → (Int) → (Int) → (List Int) → Option (Bool)
  | 0, _, _, _ => none
  | k + 1, x1, x5, m1_0 => if x5 < (m1_0.length : Int) then (if 0 ≤ x5 then ((spec_l5Part.f (rd m1_0 x5) x1).bind fun t103 => (if t103 = true then (some true) else (spec_l5Has.l0 k x1 (wrap64 (x5 + 1)) m1_0))) else (none)) else (some false)
def spec_l5Has.f (k : Nat) (l0_0 : List Int) (a1 : Int) : Option (Bool) := spec_l5Has.l0 k a1 0 l0_0
set_option maxHeartbeats 8000000 in
set_option maxRecDepth 100000 in
theorem spec_l5Has.calls (k : Nat) (A0_0 : Option Addr) (c0_0 : Nat) (l0_0 : List Int) (a1 : Int) (r : Bool) (w : World) (hr0_0 : Kd.C (Kd.int .i64) w A0_0 l0_0.length l0_0) (hc0_0 : l0_0.length ≤ c0_0) (h : spec_l5Has.f k l0_0 a1 = some r) :
    Calls Try.prog 51 #[.agg #[.slice A0_0 l0_0.length c0_0], .int .i64 a1] w fun e w' => e = .returned (.bool r) ∧ Below w.heap.size w w' := by
  have HR0_0 := Aside0.mk hr0_0
  have HC0_0 := Aside0.mk hc0_0
  clear hr0_0 hc0_0
  have hu22 := Try.underlying22
  have hu24 := Try.underlying24
  have HM := Aside0.mk (MS.start w)
  have H : (spec_l5Has.l0 k a1 0 l0_0) = some r := h
  clear h
  have H' := Aside0.mk H
  clear H
  go_enter Try.func51, Try.ntmps51
  go_wp2_with (first | ((with_reducible refine gate_dst (N := 2) rfl ?_); refine box_event ?hg (N := 2) ?hd (cs := #[.slice A0_0 l0_0.length c0_0]) (t := 24) ?hr ?_; (case hd => rfl); (case hg => rfl); (case hr => first | (go_simp; done) | (go_simp; rfl)); intro gb1 hg w1_ hbox hb; have n_ := Aside0.mk (HM.out.addBox hb hbox hg); clear HM; have HM := n_; clear n_; clear hb hbox hg))
  go_loopg [5] k (fun kq v5 w' => ∃ (x5_2 : Int), v5 = .int .i64 x5_2 ∧ Aside0 (spec_l5Has.l0 kq a1 x5_2 l0_0 = some r) ∧ Aside0 (kq ≤ k) ∧ Aside0 (MS w w' [.box gb1 24 #[.slice A0_0 l0_0.length c0_0]]))
  case atStart => exact ⟨(0), (by first | rfl | (simp; done) | (simp [*]; done)), H', ⟨Nat.le_refl _⟩, HM⟩
  case round =>
    clear H'
    clear HM
    obtain ⟨x5_2, rfl, HA, HK3_, HM⟩ := hrel
    cases gk with
    | zero => exact absurd HA.out (by simp [spec_l5Has.l0])
    | succ k4_ =>
      have H := HA.out
      clear HA
      simp only [spec_l5Has.l0] at H
      by_cases c5_ : x5_2 < (l0_0.length : Int)
      · rw [if_pos c5_] at H
        have c5_b0 : decide (x5_2 < (l0_0.length : Int)) = true := decide_eq_true c5_
        clear c5_
        by_cases c6_ : 0 ≤ x5_2
        · rw [if_pos c6_] at H
          have c6_b0 : decide (0 ≤ x5_2) = true := decide_eq_true c6_
          clear c6_
          replace H := Option.bind_eq_some_iff.mp H
          obtain ⟨t103, A7_0, H⟩ := H
          replace H : (if t103 = true then (some true) else (spec_l5Has.l0 k4_ a1 (wrap64 (x5_2 + 1)) l0_0)) = some r := H
          have A7_ := Aside0.mk A7_0
          clear A7_0
          by_cases c8_ : t103 = true
          · subst c8_
            have H1 : (some true) = some r := by rw [if_pos rfl] at H; exact H
            clear H
            have H := H1
            clear H1
            obtain rfl := Option.some.inj H
            have hcz9_0 : wr.cell? ⟨gb1, 0, none⟩ = some (.slice A0_0 l0_0.length c0_0) := (blk_cell (HM.out.box 0 rfl) 0).trans rfl
            have hfz9_0 := blk_frozen (HM.out.box 0 rfl) 0
            have p102 : 0 ≤ (x5_2 : Int) := of_decide_eq_true (by first | (with_reducible assumption) | assumption)
            have q102 : (x5_2 : Int) < (l0_0.length : Int) := of_decide_eq_true (by first | (with_reducible assumption) | assumption)
            obtain ⟨ad102, e102, hx102⟩ := Kd.at_int HR0_0.out x5_2 p102 q102
            cases e102
            replace hx102 := (HM.out.below.cell (World.block_lt_of_cell? w _ hx102)).trans hx102
            replace p102 := eq_true p102
            replace q102 := eq_true q102
            go_wp2_with (first | ((with_reducible refine gate_callee (f := 72) rfl ?_); (with_reducible refine gate_dst (N := 19) rfl ?_); refine goesL_ (some 19) rfl rfl Try.func72 (by kernel_rfl) rfl #[.int .i64 (rd l0_0 x5_2), .int .i64 a1] rfl (by (try simp only [List.map_toArray, List.map_cons, List.map_nil]); first | done | rfl | (simp only [List.length_drop, List.length_take]; rfl)) ?_; (with_reducible refine (spec_l5Part.calls (rd l0_0 x5_2) a1 true _  A7_.out).mono ?_); rintro e_ w10_ ⟨rfl, hd_⟩; refine ⟨_, rfl, ?_⟩; have hb := hd_.below; clear hd_; have n_ := Aside0.mk (HM.out.step hb); clear HM; have HM := n_; clear n_; clear hb))
            go_ret
            exact ⟨by first | rfl | (simp; done) | (simp [*]; done), HM.out.below⟩
          · replace c8_ := Bool.eq_false_iff.mpr c8_
            subst c8_
            have H1 : (spec_l5Has.l0 k4_ a1 (wrap64 (x5_2 + 1)) l0_0) = some r := by rw [if_neg (show ¬ (false = true) by decide)] at H; exact H
            clear H
            have H := H1
            clear H1
            have H' := Aside0.mk H
            clear H
            have hcz11_0 : wr.cell? ⟨gb1, 0, none⟩ = some (.slice A0_0 l0_0.length c0_0) := (blk_cell (HM.out.box 0 rfl) 0).trans rfl
            have hfz11_0 := blk_frozen (HM.out.box 0 rfl) 0
            have p102 : 0 ≤ (x5_2 : Int) := of_decide_eq_true (by first | (with_reducible assumption) | assumption)
            have q102 : (x5_2 : Int) < (l0_0.length : Int) := of_decide_eq_true (by first | (with_reducible assumption) | assumption)
            obtain ⟨ad102, e102, hx102⟩ := Kd.at_int HR0_0.out x5_2 p102 q102
            cases e102
            replace hx102 := (HM.out.below.cell (World.block_lt_of_cell? w _ hx102)).trans hx102
            replace p102 := eq_true p102
            replace q102 := eq_true q102
            go_wp2_with (first | ((with_reducible refine gate_callee (f := 72) rfl ?_); (with_reducible refine gate_dst (N := 19) rfl ?_); refine goesL_ (some 19) rfl rfl Try.func72 (by kernel_rfl) rfl #[.int .i64 (rd l0_0 x5_2), .int .i64 a1] rfl (by (try simp only [List.map_toArray, List.map_cons, List.map_nil]); first | done | rfl | (simp only [List.length_drop, List.length_take]; rfl)) ?_; (with_reducible refine (spec_l5Part.calls (rd l0_0 x5_2) a1 false _  A7_.out).mono ?_); rintro e_ w12_ ⟨rfl, hd_⟩; refine ⟨_, rfl, ?_⟩; have hb := hd_.below; clear hd_; have n_ := Aside0.mk (HM.out.step hb); clear HM; have HM := n_; clear n_; clear hb))
            go_roundg k4_
            case measure => have hHK3__ := HK3_.out; omega
            case rel => exact ⟨(wrap64 (x5_2 + 1)), (by first | rfl | (simp; done) | (simp [*]; done)), H', ⟨by have hHK3__ := HK3_.out; omega⟩, HM⟩
        · rw [if_neg c6_] at H
          have c6_b0 : decide (0 ≤ x5_2) = false := decide_eq_false c6_
          clear c6_
          exact absurd H (by simp)
      · rw [if_neg c5_] at H
        have c5_b0 : decide (x5_2 < (l0_0.length : Int)) = false := decide_eq_false c5_
        clear c5_
        obtain rfl := Option.some.inj H
        have hcz13_0 : wr.cell? ⟨gb1, 0, none⟩ = some (.slice A0_0 l0_0.length c0_0) := (blk_cell (HM.out.box 0 rfl) 0).trans rfl
        have hfz13_0 := blk_frozen (HM.out.box 0 rfl) 0
        go_wp2
        go_ret
        exact ⟨by first | rfl | (simp; done) | (simp [*]; done), HM.out.below⟩

/-! ### spec_l5Members: function 37 -/
def spec_l5Members.l0 : Nat → (Int) → (List Bool) → (List Int) → Option (List Bool)
  | 0, _, _, _ => none
  | k + 1, x4, m3, m1_0 => if x4 < 64 then ((spec_l5Has.f k m1_0 x4).bind fun t104 => (if 0 ≤ x4 then (spec_l5Members.l0 k (wrap64 (x4 + 1)) (m3.set (x4 : Int).toNat t104) m1_0) else (none))) else (some m3)
def spec_l5Members.f (k : Nat) (l0_0 : List Int) : Option (List Bool) := spec_l5Members.l0 k 0 (List.replicate 64 false) l0_0
set_option maxHeartbeats 8000000 in
set_option maxRecDepth 100000 in
theorem spec_l5Members.calls (k : Nat) (A0_0 : Option Addr) (c0_0 : Nat) (l0_0 : List Int) (r : List Bool) (w : World) (hr0_0 : Kd.C (Kd.int .i64) w A0_0 l0_0.length l0_0) (hc0_0 : l0_0.length ≤ c0_0) (h : spec_l5Members.f k l0_0 = some r) :
    Calls Try.prog 37 #[.agg #[.slice A0_0 l0_0.length c0_0]] w fun e w' => e = .returned (.agg (bcs r)) ∧ r.length = 64 ∧ Below w.heap.size w w' := by
  have HR0_0 := Aside0.mk hr0_0
  have HC0_0 := Aside0.mk hc0_0
  clear hr0_0 hc0_0
  have hu24 := Try.underlying24
  have hu46 := Try.underlying46
  have HM := Aside0.mk (MS.start w)
  have H : (spec_l5Members.l0 k 0 (List.replicate 64 false) l0_0) = some r := h
  clear h
  have H' := Aside0.mk H
  clear H
  go_enter Try.func37, Try.ntmps37
  go_wp2_with (first | ((with_reducible refine gate_dst (N := 1) rfl ?_); refine box_event ?hg (N := 1) ?hd (cs := #[.slice A0_0 l0_0.length c0_0]) (t := 24) ?hr ?_; (case hd => rfl); (case hg => rfl); (case hr => first | (go_simp; done) | (go_simp; rfl)); intro gb1 hg w1_ hbox hb; have n_ := Aside0.mk (HM.out.addBox hb hbox hg); clear HM; have HM := n_; clear n_; clear hb hbox hg) | ((with_reducible refine gate_dst (N := 2) rfl ?_); refine box_event ?hg (N := 2) ?hd (cs := (bcs (List.replicate 64 false))) (t := 46) ?hr ?_; (case hd => rfl); (case hg => rfl); (case hr => first | (go_simp; done) | (go_simp; rfl)); intro gb2 hg w2_ hbox hb; have n_ := Aside0.mk (HM.out.addBox hb hbox hg); clear HM; have HM := n_; clear n_; clear hb hbox hg) | ((with_reducible refine gate_dst (N := 5) rfl ?_); refine build_zero ?hg (N := 5) ?hd (cs := (bcs (List.replicate 64 false))) ?hr ?_; (case hd => rfl); (case hg => rfl); (case hr => first | (go_simp; done) | (go_simp; rfl))) | ((with_reducible refine gate_dst (N := 3) rfl ?_); refine box_event ?hg (N := 3) ?hd (cs := (bcs (List.replicate 64 false))) (t := 46) ?hr ?_; (case hd => rfl); (case hg => rfl); (case hr => first | (go_simp; done) | (go_simp; rfl)); intro gb3 hg w3_ hbox hb; have n_ := Aside0.mk (HM.out.addBox hb hbox hg); clear HM; have HM := n_; clear n_; clear hb hbox hg) | ((with_reducible refine gate_store (t := 46) (p := 3) rfl ?_); refine wpList_store_row rfl _ _ _ rfl gb3 (bcs (List.replicate 64 false)) rfl rfl 46 (bcs (List.replicate 64 false)) (HM.out.box 0 rfl) (by rw [bcs_size, (List.length_replicate)]; kernel_rfl) ((bcs_size _).trans (((List.length_replicate)).trans ((show _ = 64 from (List.length_replicate)).symm.trans (bcs_size _).symm))) (bcs_one _) ?_; generalize hw : World.setRow _ _ _ = w4_; have n_ : Aside0 (MS w w4_ [.box gb3 46 (bcs (List.replicate 64 false)), .box gb2 46 (bcs (List.replicate 64 false)), .box gb1 24 #[.slice A0_0 l0_0.length c0_0]]) := ⟨by rw [← hw]; exact HM.out.setRow 0 rfl _⟩; clear HM hw; have HM := n_; clear n_))
  go_loopg [4] k (fun kq v4 w' => ∃ (x4_5 : Int) (m3_5 : List Bool), v4 = .int .i64 x4_5 ∧ Aside0 (spec_l5Members.l0 kq x4_5 m3_5 l0_0 = some r) ∧ Aside0 (kq ≤ k) ∧ Aside0 (m3_5.length = 64) ∧ Aside0 (MS w w' [.box gb3 46 (bcs m3_5), .box gb2 46 (bcs (List.replicate 64 false)), .box gb1 24 #[.slice A0_0 l0_0.length c0_0]]))
  case atStart => exact ⟨(0), ((List.replicate 64 false)), (by first | rfl | (simp; done) | (simp [*]; done)), H', ⟨Nat.le_refl _⟩, ⟨(List.length_replicate)⟩, HM⟩
  case round =>
    clear H'
    clear HM
    obtain ⟨x4_5, m3_5, rfl, HA, HK6_, HLm3_5, HM⟩ := hrel
    cases gk with
    | zero => exact absurd HA.out (by simp [spec_l5Members.l0])
    | succ k7_ =>
      have H := HA.out
      clear HA
      simp only [spec_l5Members.l0] at H
      by_cases c8_ : x4_5 < 64
      · rw [if_pos c8_] at H
        have c8_b0 : decide (x4_5 < 64) = true := decide_eq_true c8_
        clear c8_
        replace H := Option.bind_eq_some_iff.mp H
        obtain ⟨t104, A9_0, H⟩ := H
        replace H : (if 0 ≤ x4_5 then (spec_l5Members.l0 k7_ (wrap64 (x4_5 + 1)) (m3_5.set (x4_5 : Int).toNat t104) l0_0) else (none)) = some r := H
        have A9_ := Aside0.mk A9_0
        clear A9_0
        by_cases c10_ : 0 ≤ x4_5
        · rw [if_pos c10_] at H
          have c10_b0 : decide (0 ≤ x4_5) = true := decide_eq_true c10_
          clear c10_
          obtain ⟨y105, hy105⟩ : ∃ y_, y_ = (m3_5.set (x4_5 : Int).toNat t104) := ⟨_, rfl⟩
          replace H : (spec_l5Members.l0 k7_ (wrap64 (x4_5 + 1)) y105 l0_0) = some r := by first | (rw [hy105]; with_reducible exact H) | (have H2_ := (Option.bind_some _ _).symm.trans H; rw [hy105]; with_reducible exact H2_) | (have H2_ := (Option.bind_some _ _).symm.trans H; with_reducible exact H2_) | with_reducible exact H | (rw [hy105]; exact H) | exact H
          have Ny105 := Aside0.mk hy105
          clear hy105
          have H' := Aside0.mk H
          clear H
          have hcz11_0 : wr.cell? ⟨gb1, 0, none⟩ = some (.slice A0_0 l0_0.length c0_0) := (blk_cell (HM.out.box 2 rfl) 0).trans rfl
          have hfz11_0 := blk_frozen (HM.out.box 2 rfl) 0
          go_wp2_with (first | ((with_reducible refine gate_callee (f := 51) rfl ?_); (with_reducible refine gate_dst (N := 13) rfl ?_); refine goesL_ (some 13) rfl rfl Try.func51 (by kernel_rfl) rfl #[.agg #[.slice A0_0 l0_0.length c0_0], .int .i64 x4_5] rfl (by (try simp only [List.map_toArray, List.map_cons, List.map_nil]); first | done | rfl | (simp only [List.length_drop, List.length_take]; rfl)) ?_; (with_reducible refine (spec_l5Has.calls k7_ _ _ l0_0 x4_5 t104 _ ?sd0 ?sd1 A9_.out).mono ?_); (case sd0 => exact (Kd.C_below HR0_0.out HM.out.below)); (case sd1 => exact HC0_0.out); rintro e_ w12_ ⟨rfl, hb⟩; refine ⟨_, rfl, ?_⟩; have n_ := Aside0.mk (HM.out.step hb); clear HM; have HM := n_; clear n_; clear hb; have p106 : 0 ≤ (x4_5 : Int) := of_decide_eq_true (by first | (with_reducible assumption) | assumption); have q106 : (x4_5 : Int) < 64 := of_decide_eq_true (by first | (with_reducible assumption) | assumption); have hx106 := bcell (HM.out.box 0 rfl) x4_5 p106 (by have := HLm3_5.out; omega); have hf106 := blk_frozen (HM.out.box 0 rfl) (x4_5 : Int).toNat; replace p106 := eq_true p106; replace q106 := eq_true q106) | ((with_reducible refine gate_store (t := 4) (p := 14) rfl ?_); refine store_event (t := 4) (p := 14) (v := ?vow13_) (w1 := (w12_.setCell ⟨gb3, (x4_5 : Int).toNat, none⟩ (.bool t104))) ?hg ?ho ?hn ?hr ?_; (case ho => rfl); (case hg => rfl); (case hn => rfl); (case hr => first | (go_simp; done) | (go_simp; rfl)); intro w13_ hw; have n_ : Aside0 (MS w w13_ [.box gb3 46 (bcs y105), .box gb2 46 (bcs (List.replicate 64 false)), .box gb1 24 #[.slice A0_0 l0_0.length c0_0]]) := ⟨by rw [hw]; exact HM.out.setBox 0 rfl _ _ (by rw [bcs_set, ← Ny105.out])⟩; clear HM hw; have HM := n_; clear n_))
          go_roundg k7_
          case measure => have hHK6__ := HK6_.out; omega
          case rel => exact ⟨(wrap64 (x4_5 + 1)), (y105), (by first | rfl | (simp; done) | (simp [*]; done)), H', ⟨by have hHK6__ := HK6_.out; omega⟩, ⟨(show y105.length = 64 from by rw [Ny105.out, List.length_set]; exact HLm3_5.out)⟩, HM⟩
        · rw [if_neg c10_] at H
          have c10_b0 : decide (0 ≤ x4_5) = false := decide_eq_false c10_
          clear c10_
          exact absurd H (by simp)
      · rw [if_neg c8_] at H
        have c8_b0 : decide (x4_5 < 64) = false := decide_eq_false c8_
        clear c8_
        obtain rfl := Option.some.inj H
        go_wp2_with (first | ((with_reducible refine gate_dst (N := 15) rfl ?_); refine wpList_load_row rfl _ _ rfl gb3 rfl 46 (bcs m3_5) (0, 0) _ (HM.out.box 0 rfl) Try.underlying46 rfl (by rw [bcs_size, HLm3_5.out]; kernel_rfl) ?_) | ((with_reducible refine gate_store (t := 46) (p := 2) rfl ?_); refine wpList_store_row rfl _ _ _ rfl gb2 (bcs m3_5) rfl rfl 46 (bcs (List.replicate 64 false)) (HM.out.box 1 rfl) (by rw [bcs_size, HLm3_5.out]; kernel_rfl) ((bcs_size _).trans (((List.length_replicate)).trans ((show _ = 64 from HLm3_5.out).symm.trans (bcs_size _).symm))) (bcs_one _) ?_; generalize hw : World.setRow _ _ _ = w14_; have n_ : Aside0 (MS w w14_ [.box gb3 46 (bcs m3_5), .box gb2 46 (bcs m3_5), .box gb1 24 #[.slice A0_0 l0_0.length c0_0]]) := ⟨by rw [← hw]; exact HM.out.setRow 1 rfl _⟩; clear HM hw; have HM := n_; clear n_))
        refine bodyPost_ret (results_cell_row rfl _ _ gb2 46 (bcs m3_5) (0, 0) _ rfl (HM.out.box 1 rfl) Try.underlying46 rfl (by rw [bcs_size, HLm3_5.out]; kernel_rfl)) rfl ?_
        exact ⟨by first | rfl | (simp; done) | (simp [*]; done), HLm3_5.out, HM.out.below⟩

/-! ### spec_l3Edge: function 75 -/
def spec_l3Edge.l0 : Nat → (Int) → (Bool) → (Int) → (List Bool) → Option (Bool)
  | 0, _, _, _, _ => none
  | k + 1, x1, x2, x7, m1 => if x7 < 6 then (if 0 ≤ x7 then (if 0 ≤ (Go.bits .xor .i64 x1 (shl .i64 1 x7)) then (if (Go.bits .xor .i64 x1 (shl .i64 1 x7)) < 64 then (if ((rdOf false m1 (Go.bits .xor .i64 x1 (shl .i64 1 x7))) == x2) = true then (if ((decide ((Go.bits .xor .i64 x1 (shl .i64 1 x7)) < x1)) == x2) = true then (some false) else (spec_l3Edge.l0 k x1 x2 (wrap64 (x7 + 1)) m1)) else (spec_l3Edge.l0 k x1 x2 (wrap64 (x7 + 1)) m1)) else (none)) else (none)) else (none)) else (if 0 ≤ x1 then (if x1 < 64 then (some ((rdOf false m1 x1) == x2)) else (none)) else (none))
def spec_l3Edge.f (k : Nat) (l0 : List Bool) (a1 : Int) (a2 : Bool) : Option (Bool) := spec_l3Edge.l0 k a1 a2 0 l0
set_option maxHeartbeats 8000000 in
set_option maxRecDepth 100000 in
theorem spec_l3Edge.calls (k : Nat) (l0 : List Bool) (a1 : Int) (a2 : Bool) (r : Bool) (w : World) (hl0 : l0.length = 64) (h : spec_l3Edge.f k l0 a1 a2 = some r) :
    Calls Try.prog 75 #[.agg (bcs l0), .int .i64 a1, .bool a2] w fun e w' => e = .returned (.bool r) ∧ Below w.heap.size w w' := by
  have HL0 := Aside0.mk hl0
  clear hl0
  have hu46 := Try.underlying46
  have HM := Aside0.mk (MS.start w)
  have H : (spec_l3Edge.l0 k a1 a2 0 l0) = some r := h
  clear h
  have H' := Aside0.mk H
  clear H
  go_enter Try.func75, Try.ntmps75
  go_wp2_with (first | ((with_reducible refine gate_dst (N := 3) rfl ?_); refine box_event ?hg (N := 3) ?hd (cs := (bcs l0)) (t := 46) ?hr ?_; (case hd => rfl); (case hg => rfl); (case hr => first | (go_simp; done) | (go_simp; rfl)); intro gb1 hg w1_ hbox hb; have n_ := Aside0.mk (HM.out.addBox hb hbox hg); clear HM; have HM := n_; clear n_; clear hb hbox hg))
  go_loopg [7] k (fun kq v7 w' => ∃ (x7_2 : Int), v7 = .int .i64 x7_2 ∧ Aside0 (spec_l3Edge.l0 kq a1 a2 x7_2 l0 = some r) ∧ Aside0 (kq ≤ k) ∧ Aside0 (MS w w' [.box gb1 46 (bcs l0)]))
  case atStart => exact ⟨(0), (by first | rfl | (simp; done) | (simp [*]; done)), H', ⟨Nat.le_refl _⟩, HM⟩
  case round =>
    clear H'
    clear HM
    obtain ⟨x7_2, rfl, HA, HK3_, HM⟩ := hrel
    cases gk with
    | zero => exact absurd HA.out (by simp [spec_l3Edge.l0])
    | succ k4_ =>
      have H := HA.out
      clear HA
      simp only [spec_l3Edge.l0] at H
      by_cases c5_ : x7_2 < 6
      · rw [if_pos c5_] at H
        have c5_b0 : decide (x7_2 < 6) = true := decide_eq_true c5_
        clear c5_
        by_cases c6_ : 0 ≤ x7_2
        · rw [if_pos c6_] at H
          have c6_x := eq_true c6_
          have c6_b0 : decide (0 ≤ x7_2) = true := decide_eq_true c6_
          clear c6_
          obtain ⟨ji7_, hji7_⟩ : ∃ j_ : Int, (shl .i64 1 x7_2) = j_ := ⟨_, rfl⟩
          replace H : (if 0 ≤ (Go.bits .xor .i64 a1 ji7_) then (if (Go.bits .xor .i64 a1 ji7_) < 64 then (if ((rdOf false l0 (Go.bits .xor .i64 a1 ji7_)) == a2) = true then (if ((decide ((Go.bits .xor .i64 a1 ji7_) < a1)) == a2) = true then (some false) else (spec_l3Edge.l0 k4_ a1 a2 (wrap64 (x7_2 + 1)) l0)) else (spec_l3Edge.l0 k4_ a1 a2 (wrap64 (x7_2 + 1)) l0)) else (none)) else (none)) = some r := by first | (rw [hji7_] at H; exact H) | (simp only [hji7_] at H ⊢; exact H)
          have hji7__ : (IntKind.i64.wrap (1 * 2 ^ min (x7_2).toNat 64)) = ji7_ := hji7_
          have hji7_z : (x7_2) ≤ 64 → (IntKind.i64.wrap (1 * 2 ^ (x7_2).toNat)) = ji7_ := shl_small hji7_
          have hji7_u : (IntKind.i64.wrap (2 ^ min (x7_2).toNat 64)) = ji7_ := by have h_ := hji7__; rw [Int.one_mul] at h_; exact h_
          have hji7_v : (x7_2) ≤ 64 → (IntKind.i64.wrap (2 ^ (x7_2).toNat)) = ji7_ := fun hle_ => by have h_ := hji7_z hle_; rw [Int.one_mul] at h_; exact h_
          have hji7_y : (wrap64 (1 * 2 ^ min (x7_2).toNat 64)) = ji7_ := (i64_w _).symm.trans hji7__
          have hji7_x : (x7_2) ≤ 64 → (wrap64 (1 * 2 ^ (x7_2).toNat)) = ji7_ := fun h_ => (i64_w _).symm.trans (hji7_z h_)
          by_cases c8_ : 0 ≤ (Go.bits .xor .i64 a1 ji7_)
          · rw [if_pos c8_] at H
            have c8_b0 : decide (0 ≤ (Go.bits .xor .i64 a1 ji7_)) = true := decide_eq_true c8_
            clear c8_
            by_cases c9_ : (Go.bits .xor .i64 a1 ji7_) < 64
            · rw [if_pos c9_] at H
              have c9_b0 : decide ((Go.bits .xor .i64 a1 ji7_) < 64) = true := decide_eq_true c9_
              clear c9_
              by_cases c10_ : ((rdOf false l0 (Go.bits .xor .i64 a1 ji7_)) == a2) = true
              · rw [if_pos c10_] at H
                have c10_b0 : ((rdOf false l0 (Go.bits .xor .i64 a1 ji7_)) == a2) = true := c10_
                clear c10_
                by_cases c11_ : ((decide ((Go.bits .xor .i64 a1 ji7_) < a1)) == a2) = true
                · rw [if_pos c11_] at H
                  have c11_b0 : ((decide ((Go.bits .xor .i64 a1 ji7_) < a1)) == a2) = true := c11_
                  clear c11_
                  obtain rfl := Option.some.inj H
                  have p107 : 0 ≤ (Go.bits .xor .i64 a1 ji7_ : Int) := of_decide_eq_true (by first | (with_reducible assumption) | assumption)
                  have q107 : (Go.bits .xor .i64 a1 ji7_ : Int) < 64 := of_decide_eq_true (by first | (with_reducible assumption) | assumption)
                  have hx107 := bcell (HM.out.box 0 rfl) (Go.bits .xor .i64 a1 ji7_) p107 (by have := HL0.out; omega)
                  replace p107 := eq_true p107
                  replace q107 := eq_true q107
                  go_wp2
                  go_ret
                  exact ⟨by first | rfl | (simp; done) | (simp only [← hji7_] <;> (first | rfl | simp)) | (simp [*]; done), HM.out.below⟩
                · rw [if_neg c11_] at H
                  have c11_b0 : ((decide ((Go.bits .xor .i64 a1 ji7_) < a1)) == a2) = false := by simpa using c11_
                  clear c11_
                  have H' := Aside0.mk H
                  clear H
                  have p107 : 0 ≤ (Go.bits .xor .i64 a1 ji7_ : Int) := of_decide_eq_true (by first | (with_reducible assumption) | assumption)
                  have q107 : (Go.bits .xor .i64 a1 ji7_ : Int) < 64 := of_decide_eq_true (by first | (with_reducible assumption) | assumption)
                  have hx107 := bcell (HM.out.box 0 rfl) (Go.bits .xor .i64 a1 ji7_) p107 (by have := HL0.out; omega)
                  replace p107 := eq_true p107
                  replace q107 := eq_true q107
                  go_wp2
                  go_roundg k4_
                  case measure => have hHK3__ := HK3_.out; omega
                  case rel => exact ⟨(wrap64 (x7_2 + 1)), (by first | rfl | (simp; done) | (simp only [← hji7_] <;> (first | rfl | simp)) | (simp [*]; done)), H', ⟨by have hHK3__ := HK3_.out; omega⟩, HM⟩
              · rw [if_neg c10_] at H
                have c10_b0 : ((rdOf false l0 (Go.bits .xor .i64 a1 ji7_)) == a2) = false := by simpa using c10_
                clear c10_
                have H' := Aside0.mk H
                clear H
                have p107 : 0 ≤ (Go.bits .xor .i64 a1 ji7_ : Int) := of_decide_eq_true (by first | (with_reducible assumption) | assumption)
                have q107 : (Go.bits .xor .i64 a1 ji7_ : Int) < 64 := of_decide_eq_true (by first | (with_reducible assumption) | assumption)
                have hx107 := bcell (HM.out.box 0 rfl) (Go.bits .xor .i64 a1 ji7_) p107 (by have := HL0.out; omega)
                replace p107 := eq_true p107
                replace q107 := eq_true q107
                go_wp2
                go_roundg k4_
                case measure => have hHK3__ := HK3_.out; omega
                case rel => exact ⟨(wrap64 (x7_2 + 1)), (by first | rfl | (simp; done) | (simp only [← hji7_] <;> (first | rfl | simp)) | (simp [*]; done)), H', ⟨by have hHK3__ := HK3_.out; omega⟩, HM⟩
            · rw [if_neg c9_] at H
              have c9_b0 : decide ((Go.bits .xor .i64 a1 ji7_) < 64) = false := decide_eq_false c9_
              clear c9_
              exact absurd H (by simp)
          · rw [if_neg c8_] at H
            have c8_b0 : decide (0 ≤ (Go.bits .xor .i64 a1 ji7_)) = false := decide_eq_false c8_
            clear c8_
            exact absurd H (by simp)
        · rw [if_neg c6_] at H
          have c6_b0 : decide (0 ≤ x7_2) = false := decide_eq_false c6_
          clear c6_
          exact absurd H (by simp)
      · rw [if_neg c5_] at H
        have c5_b0 : decide (x7_2 < 6) = false := decide_eq_false c5_
        clear c5_
        by_cases c12_ : 0 ≤ a1
        · rw [if_pos c12_] at H
          have c12_b0 : decide (0 ≤ a1) = true := decide_eq_true c12_
          clear c12_
          by_cases c13_ : a1 < 64
          · rw [if_pos c13_] at H
            have KNc13_ := Aside0.mk c13_
            have c13_b0 : decide (a1 < 64) = true := decide_eq_true c13_
            clear c13_
            obtain rfl := Option.some.inj H
            have p108 : 0 ≤ (a1 : Int) := of_decide_eq_true (by first | (with_reducible assumption) | assumption)
            have q108 : (a1 : Int) < 64 := of_decide_eq_true (by first | (with_reducible assumption) | assumption)
            have hx108 := bcell (HM.out.box 0 rfl) a1 p108 (by have := HL0.out; omega)
            replace p108 := eq_true p108
            replace q108 := eq_true q108
            go_wp2
            go_ret
            exact ⟨by first | rfl | (simp; done) | (simp [*]; done), HM.out.below⟩
          · rw [if_neg c13_] at H
            have KNc13_ := Aside0.mk c13_
            have c13_b0 : decide (a1 < 64) = false := decide_eq_false c13_
            clear c13_
            exact absurd H (by simp)
        · rw [if_neg c12_] at H
          have c12_b0 : decide (0 ≤ a1) = false := decide_eq_false c12_
          clear c12_
          exact absurd H (by simp)

/-! ### spec_l3Edges: function 65 -/
def spec_l3Edges.l0 : Nat → (Bool) → (Int) → (List Int) → (List Bool) → Option (List Int)
  | 0, _, _, _, _ => none
  | k + 1, x1, x6, m2, m1 => if x6 < 64 then ((spec_l3Edge.f k m1 x6 x1).bind fun t110 => (if t110 = true then (if m2.length < 17592186044416 then (spec_l3Edges.l0 k x1 (wrap64 (x6 + 1)) (m2 ++ [x6]) m1) else (none)) else (spec_l3Edges.l0 k x1 (wrap64 (x6 + 1)) m2 m1))) else (some m2)
def spec_l3Edges.f (k : Nat) (l0 : List Bool) (a1 : Bool) : Option (List Int) := spec_l3Edges.l0 k a1 0 (([] : List Int)) l0
set_option maxHeartbeats 8000000 in
set_option maxRecDepth 100000 in
theorem spec_l3Edges.calls (k : Nat) (l0 : List Bool) (a1 : Bool) (r : List Int) (w : World) (hl0 : l0.length = 64) (h : spec_l3Edges.f k l0 a1 = some r) :
    Calls Try.prog 65 #[.agg (bcs l0), .bool a1] w fun e w' => ∃ v0_ : Value, e = .returned (v0_) ∧ Kd.R (Kd.int .i64) 3 w' w.heap.size (fun _ => True) v0_ r ∧ Below w.heap.size w w' := by
  have HL0 := Aside0.mk hl0
  clear hl0
  have hu46 := Try.underlying46
  have HM := Aside0.mk (MS.start w)
  have H : (spec_l3Edges.l0 k a1 0 (([] : List Int)) l0) = some r := h
  clear h
  obtain ⟨y109, hy109⟩ : ∃ y_, y_ = (([] : List Int)) := ⟨_, rfl⟩
  replace H : (spec_l3Edges.l0 k a1 0 y109 l0) = some r := by first | (rw [hy109]; with_reducible exact H) | (have H2_ := (Option.bind_some _ _).symm.trans H; rw [hy109]; with_reducible exact H2_) | (have H2_ := (Option.bind_some _ _).symm.trans H; with_reducible exact H2_) | with_reducible exact H | (rw [hy109]; exact H) | exact H
  have Ny109 := Aside0.mk hy109
  clear hy109
  have H' := Aside0.mk H
  clear H
  go_enter Try.func65, Try.ntmps65
  go_wp2_with (first | ((with_reducible refine gate_dst (N := 2) rfl ?_); refine box_event ?hg (N := 2) ?hd (cs := (bcs l0)) (t := 46) ?hr ?_; (case hd => rfl); (case hg => rfl); (case hr => first | (go_simp; done) | (go_simp; rfl)); intro gb1 hg w1_ hbox hb; have n_ := Aside0.mk (HM.out.addBox hb hbox hg); clear HM; have HM := n_; clear n_; clear hb hbox hg) | ((with_reducible refine gate_dst (N := 7) rfl ?_); refine Kd.R_lit (Kd.int .i64) _ 3 ?hg (N := 7) ?hd (xs := ([] : List Int)) (inner := []) (ok := fun _ => True) (okp := fun _ => True) ?hr ?hp (fun _ hk => hk) trivial (Below.refl _ _) (Nat.le_refl _) (by simp) ?_; (case hd => rfl); (case hg => rfl); (case hr => first | (go_simp; done) | (go_simp; rfl)); (case hp => exact (Reps.none _ _)); intro vv_ w2_ ho hb hg_ hnew_; clear hg_ hnew_; rw [← Ny109.out] at ho; obtain ⟨Ao2_0, co2_0, ev_⟩ := Kd.R_slice ho; subst ev_; have n_ := Aside0.mk (HM.out.addR hb ho); clear HM; have HM := n_; clear n_; clear hb ho))
  go_loopg [5, 6] k (fun kq v5 v6 w' => ∃ (x6_3 : Int) (Am2_3 : Option Addr) (cm2_3 : Nat) (m2_3 : List Int), v6 = .int .i64 x6_3 ∧ v5 = .slice Am2_3 m2_3.length cm2_3 ∧ Aside0 (spec_l3Edges.l0 kq a1 x6_3 m2_3 l0 = some r) ∧ Aside0 (kq ≤ k) ∧ Aside0 (MS w w' [.row 3 (.slice Am2_3 m2_3.length cm2_3) (encs (Value.int .i64) m2_3), .box gb1 46 (bcs l0)]))
  case atStart => exact ⟨(0), (Ao2_0), (co2_0), (y109), (by first | rfl | (simp; done) | (simp [*]; done)), (by first | rfl | (simp; done) | (simp [*]; done)), H', ⟨Nat.le_refl _⟩, HM⟩
  case round =>
    clear H'
    clear HM
    obtain ⟨x6_3, Am2_3, cm2_3, m2_3, rfl, rfl, HA, HK4_, HM⟩ := hrel
    cases gk with
    | zero => exact absurd HA.out (by simp [spec_l3Edges.l0])
    | succ k5_ =>
      have H := HA.out
      clear HA
      simp only [spec_l3Edges.l0] at H
      by_cases c6_ : x6_3 < 64
      · rw [if_pos c6_] at H
        have c6_b0 : decide (x6_3 < 64) = true := decide_eq_true c6_
        clear c6_
        replace H := Option.bind_eq_some_iff.mp H
        obtain ⟨t110, A7_0, H⟩ := H
        replace H : (if t110 = true then (if m2_3.length < 17592186044416 then (spec_l3Edges.l0 k5_ a1 (wrap64 (x6_3 + 1)) (m2_3 ++ [x6_3]) l0) else (none)) else (spec_l3Edges.l0 k5_ a1 (wrap64 (x6_3 + 1)) m2_3 l0)) = some r := H
        have A7_ := Aside0.mk A7_0
        clear A7_0
        by_cases c8_ : t110 = true
        · subst c8_
          have H1 : (if m2_3.length < 17592186044416 then (spec_l3Edges.l0 k5_ a1 (wrap64 (x6_3 + 1)) (m2_3 ++ [x6_3]) l0) else (none)) = some r := by rw [if_pos rfl] at H; exact H
          clear H
          have H := H1
          clear H1
          by_cases c9_ : m2_3.length < 17592186044416
          · rw [if_pos c9_] at H
            have LMc9_ := Aside0.mk c9_
            clear c9_
            obtain ⟨y111, hy111⟩ : ∃ y_, y_ = (m2_3 ++ [x6_3]) := ⟨_, rfl⟩
            replace H : (spec_l3Edges.l0 k5_ a1 (wrap64 (x6_3 + 1)) y111 l0) = some r := by first | (rw [hy111]; with_reducible exact H) | (have H2_ := (Option.bind_some _ _).symm.trans H; rw [hy111]; with_reducible exact H2_) | (have H2_ := (Option.bind_some _ _).symm.trans H; with_reducible exact H2_) | with_reducible exact H | (rw [hy111]; exact H) | exact H
            have Ny111 := Aside0.mk hy111
            clear hy111
            have H' := Aside0.mk H
            clear H
            go_wp2_with (first | ((with_reducible refine gate_dst (N := 12) rfl ?_); refine wpList_load_row rfl _ _ rfl gb1 rfl 46 (bcs l0) (0, 0) _ (HM.out.box 1 rfl) Try.underlying46 rfl (by rw [bcs_size, HL0.out]; kernel_rfl) ?_) | ((with_reducible refine gate_callee (f := 75) rfl ?_); (with_reducible refine gate_dst (N := 15) rfl ?_); refine goesL_ (some 15) rfl rfl Try.func75 (by kernel_rfl) rfl #[.agg (bcs l0), .int .i64 x6_3, .bool a1] rfl (by (try simp only [List.map_toArray, List.map_cons, List.map_nil]); first | done | rfl | (simp only [List.length_drop, List.length_take]; rfl)) ?_; (with_reducible refine (spec_l3Edge.calls k5_ l0 x6_3 a1 true _ ?sd0 A7_.out).mono ?_); (case sd0 => exact HL0.out); rintro e_ w10_ ⟨rfl, hb⟩; refine ⟨_, rfl, ?_⟩; have n_ := Aside0.mk (HM.out.step hb); clear HM; have HM := n_; clear n_; clear hb) | ((with_reducible refine gate_builtin (b := .append) (xs := #[.tmp 16, .tmp 18]) rfl ?_); at_builtin; refine Kd.R_append (Kd.int .i64) (w0 := w) w.heap.size rfl (.tmp 16) (.tmp 18) 22 3 (.int .i64 0) 8 rfl Try.underlying22 info3 rfl (by decide) (by omega) (.slice Am2_3 m2_3.length cm2_3) m2_3 x6_3 [.int .i64 x6_3] (fun _ => True) (fun _ => False) rfl rfl ?aP (fun _ hk => hk.elim) ?aF ?aO ?aB ?aS ?aL ?_; (case aP => exact rfl); (case aB => exact HM.out.below); (case aF => exact (fun _ _ => trivial)); (case aO => exact (HM.out.R 0 rfl)); (case aS => exact HM.out.size); (case aL => have := LMc9_.out; omega); intro vv_ w11_ ho hb hg hat; rw [← Ny111.out] at ho; have n_ := Aside0.mk (HM.out.grow 0 rfl ho hb hg hat); clear HM; have HM := n_; clear n_; obtain ⟨Ao2_y111, co2_y111, ev_⟩ := Kd.R_slice ho; subst ev_; clear ho hb hg hat; have n_ : Aside0 (MS w w11_ [.row 3 (.slice Ao2_y111 y111.length co2_y111) (encs (Value.int .i64) y111), .box gb1 46 (bcs l0)]) := ⟨HM.out⟩; clear HM; have HM := n_; clear n_))
            go_roundg k5_
            case measure => have hHK4__ := HK4_.out; omega
            case rel => exact ⟨(wrap64 (x6_3 + 1)), (Ao2_y111), (co2_y111), (y111), (by first | rfl | (simp; done) | (simp [*]; done)), (by first | rfl | (simp; done) | (simp [*]; done)), H', ⟨by have hHK4__ := HK4_.out; omega⟩, HM⟩
          · rw [if_neg c9_] at H
            clear c9_
            exact absurd H (by simp)
        · replace c8_ := Bool.eq_false_iff.mpr c8_
          subst c8_
          have H1 : (spec_l3Edges.l0 k5_ a1 (wrap64 (x6_3 + 1)) m2_3 l0) = some r := by rw [if_neg (show ¬ (false = true) by decide)] at H; exact H
          clear H
          have H := H1
          clear H1
          have H' := Aside0.mk H
          clear H
          go_wp2_with (first | ((with_reducible refine gate_dst (N := 12) rfl ?_); refine wpList_load_row rfl _ _ rfl gb1 rfl 46 (bcs l0) (0, 0) _ (HM.out.box 1 rfl) Try.underlying46 rfl (by rw [bcs_size, HL0.out]; kernel_rfl) ?_) | ((with_reducible refine gate_callee (f := 75) rfl ?_); (with_reducible refine gate_dst (N := 15) rfl ?_); refine goesL_ (some 15) rfl rfl Try.func75 (by kernel_rfl) rfl #[.agg (bcs l0), .int .i64 x6_3, .bool a1] rfl (by (try simp only [List.map_toArray, List.map_cons, List.map_nil]); first | done | rfl | (simp only [List.length_drop, List.length_take]; rfl)) ?_; (with_reducible refine (spec_l3Edge.calls k5_ l0 x6_3 a1 false _ ?sd0 A7_.out).mono ?_); (case sd0 => exact HL0.out); rintro e_ w12_ ⟨rfl, hb⟩; refine ⟨_, rfl, ?_⟩; have n_ := Aside0.mk (HM.out.step hb); clear HM; have HM := n_; clear n_; clear hb))
          go_roundg k5_
          case measure => have hHK4__ := HK4_.out; omega
          case rel => exact ⟨(wrap64 (x6_3 + 1)), (Am2_3), (cm2_3), (m2_3), (by first | rfl | (simp; done) | (simp [*]; done)), (by first | rfl | (simp; done) | (simp [*]; done)), H', ⟨by have hHK4__ := HK4_.out; omega⟩, HM⟩
      · rw [if_neg c6_] at H
        have c6_b0 : decide (x6_3 < 64) = false := decide_eq_false c6_
        clear c6_
        obtain rfl := Option.some.inj H
        go_wp2
        go_ret
        exact ⟨_, by first | rfl | (simp; done) | (simp [*]; done), HM.out.R 0 rfl, HM.out.below⟩

/-! ### spec_l5Made: function 36 -/
def spec_l5Made.f (k : Nat) (l0 : List Bool) : Option (List Int) := (spec_l3Edges.f k l0 true).bind fun t112 => (some t112)
set_option maxHeartbeats 8000000 in
set_option maxRecDepth 100000 in
theorem spec_l5Made.calls (k : Nat) (l0 : List Bool) (r : List Int) (w : World) (hl0 : l0.length = 64) (h : spec_l5Made.f k l0 = some r) :
    Calls Try.prog 36 #[.agg (bcs l0)] w fun e w' => ∃ v0_ : Value, e = .returned (.agg #[v0_]) ∧ Kd.R (Kd.int .i64) 3 w' w.heap.size (fun _ => True) v0_ r ∧ Below w.heap.size w w' := by
  have HL0 := Aside0.mk hl0
  clear hl0
  have hu24 := Try.underlying24
  have hu46 := Try.underlying46
  have HM := Aside0.mk (MS.start w)
  have H : ((spec_l3Edges.f k l0 true).bind fun t112 => (some t112)) = some r := h
  clear h
  replace H := Option.bind_eq_some_iff.mp H
  obtain ⟨t112, A1_0, H⟩ := H
  replace H : (some t112) = some r := H
  have A1_ := Aside0.mk A1_0
  clear A1_0
  obtain rfl := Option.some.inj H
  go_enter Try.func36, Try.ntmps36
  go_wp2_with (first | ((with_reducible refine gate_dst (N := 1) rfl ?_); refine box_event ?hg (N := 1) ?hd (cs := (bcs l0)) (t := 46) ?hr ?_; (case hd => rfl); (case hg => rfl); (case hr => first | (go_simp; done) | (go_simp; rfl)); intro gb1 hg w2_ hbox hb; have n_ := Aside0.mk (HM.out.addBox hb hbox hg); clear HM; have HM := n_; clear n_; clear hb hbox hg) | ((with_reducible refine gate_dst (N := 2) rfl ?_); refine box_event ?hg (N := 2) ?hd (cs := #[.slice none 0 0]) (t := 24) ?hr ?_; (case hd => rfl); (case hg => rfl); (case hr => first | (go_simp; done) | (go_simp; rfl)); intro gb2 hg w3_ hbox hb; have n_ := Aside0.mk (HM.out.addBox hb hbox hg); clear HM; have HM := n_; clear n_; clear hb hbox hg) | ((with_reducible refine gate_dst (N := 3) rfl ?_); refine wpList_load_row rfl _ _ rfl gb1 rfl 46 (bcs l0) (0, 0) _ (HM.out.box 1 rfl) Try.underlying46 rfl (by rw [bcs_size, HL0.out]; kernel_rfl) ?_) | ((with_reducible refine gate_callee (f := 65) rfl ?_); (with_reducible refine gate_dst (N := 4) rfl ?_); refine goesL_ (some 4) rfl rfl Try.func65 (by kernel_rfl) rfl #[.agg (bcs l0), .bool true] rfl (by (try simp only [List.map_toArray, List.map_cons, List.map_nil]); first | done | rfl | (simp only [List.length_drop, List.length_take]; rfl)) ?_; (with_reducible refine (spec_l3Edges.calls k l0 true t112 _ ?sd0 A1_.out).mono ?_); (case sd0 => exact HL0.out); rintro e_ w4_ ⟨vv0_, rfl, ho0_, hb⟩; refine ⟨_, rfl, ?_⟩; obtain ⟨Ao3_0, co3_0, ev_⟩ := Kd.R_slice ho0_; subst ev_; have n_ := Aside0.mk (HM.out.addR hb ho0_); clear HM; have HM := n_; clear n_; clear hb ho0_; have hcz6_0 : w4_.cell? ⟨gb2, 0, none⟩ = some (.slice none 0 0) := (blk_cell (HM.out.box 1 rfl) 0).trans rfl; have hfz6_0 := blk_frozen (HM.out.box 1 rfl) 0) | ((with_reducible refine gate_store (t := 24) (p := 2) rfl ?_); refine store_event (t := 24) (p := 2) (v := ?vow5_) (w1 := (w4_.setCell ⟨gb2, 0, none⟩ (.slice Ao3_0 t112.length co3_0))) ?hg ?ho ?hn ?hr ?_; (case ho => rfl); (case hg => rfl); (case hn => rfl); (case hr => first | (go_simp; done) | (go_simp; rfl)); intro w5_ hw; have n_ : Aside0 (MS w w5_ [.row 3 (.slice Ao3_0 t112.length co3_0) (encs (Value.int .i64) t112), .box gb2 24 #[.slice Ao3_0 t112.length co3_0], .box gb1 46 (bcs l0)]) := ⟨by rw [hw]; exact HM.out.setBox 1 rfl _ _ rfl⟩; clear HM hw; have HM := n_; clear n_))
  refine bodyPost_ret (results_cell_row rfl _ _ gb2 24 #[.slice Ao3_0 t112.length co3_0] (0, 0) _ rfl (HM.out.box 1 rfl) Try.underlying24 rfl (by kernel_rfl)) rfl ?_
  exact ⟨_, by first | rfl | (simp; done) | (simp [*]; done), HM.out.R 0 rfl, HM.out.below⟩

/-! ### spec_FamilyOf: function 11 -/
def spec_FamilyOf.l0 : Nat → (List Int) → (Int) → Option (List Int × Bool)
  | 0, _, _ => none
  | k + 1, x0, x4 => if x4 < (x0.length : Int) then (if 0 ≤ x4 then ((spec_l3Set.f (rd x0 x4)).bind fun t114 => (if t114 = true then (spec_FamilyOf.l0 k x0 (wrap64 (x4 + 1))) else (some ([], false)))) else (none)) else ((spec_l5Members.f k x0).bind fun t115 => ((spec_l5Made.f k t115).bind fun t116 => (some (t116, true))))
def spec_FamilyOf.f (k : Nat) (l0 : List Int) : Option (List Int × Bool) := spec_FamilyOf.l0 k l0 0
set_option maxHeartbeats 8000000 in
set_option maxRecDepth 100000 in
theorem spec_FamilyOf.calls (k : Nat) (A0 : Option Addr) (c0 : Nat) (l0 : List Int) (r1 : List Int) (r2 : Bool) (w : World) (hr0 : Kd.C (Kd.int .i64) w A0 l0.length l0) (hc0 : l0.length ≤ c0) (h : spec_FamilyOf.f k l0 = some (r1, r2)) :
    Calls Try.prog 11 #[.slice A0 l0.length c0] w fun e w' => ∃ v0_ : Value, e = .returned (.tuple #[.agg #[v0_], .bool r2]) ∧ Kd.R (Kd.int .i64) 3 w' w.heap.size (fun _ => True) v0_ r1 ∧ Below w.heap.size w w' := by
  have HR0 := Aside0.mk hr0
  have HC0 := Aside0.mk hc0
  clear hr0 hc0
  have hu22 := Try.underlying22
  have hu24 := Try.underlying24
  have HM := Aside0.mk (MS.start w)
  have H : (spec_FamilyOf.l0 k l0 0) = some (r1, r2) := h
  clear h
  have H' := Aside0.mk H
  clear H
  go_enter Try.func11, Try.ntmps11
  go_wp2_with (first | ((with_reducible refine gate_dst (N := 2) rfl ?_); refine box_event ?hg (N := 2) ?hd (cs := #[.slice none 0 0]) (t := 24) ?hr ?_; (case hd => rfl); (case hg => rfl); (case hr => first | (go_simp; done) | (go_simp; rfl)); intro gb1 hg w1_ hbox hb; have n_ := Aside0.mk (HM.out.addBox hb hbox hg); clear HM; have HM := n_; clear n_; clear hb hbox hg))
  go_loopg [4] k (fun kq v4 w' => ∃ (x4_2 : Int), v4 = .int .i64 x4_2 ∧ Aside0 (spec_FamilyOf.l0 kq l0 x4_2 = some (r1, r2)) ∧ Aside0 (kq ≤ k) ∧ Aside0 (MS w w' [.box gb1 24 #[.slice none 0 0]]))
  case atStart => exact ⟨(0), (by first | rfl | (simp; done) | (simp [*]; done)), H', ⟨Nat.le_refl _⟩, HM⟩
  case round =>
    clear H'
    clear HM
    obtain ⟨x4_2, rfl, HA, HK3_, HM⟩ := hrel
    cases gk with
    | zero => exact absurd HA.out (by simp [spec_FamilyOf.l0])
    | succ k4_ =>
      have H := HA.out
      clear HA
      simp only [spec_FamilyOf.l0] at H
      by_cases c5_ : x4_2 < (l0.length : Int)
      · rw [if_pos c5_] at H
        have c5_b0 : decide (x4_2 < (l0.length : Int)) = true := decide_eq_true c5_
        clear c5_
        by_cases c6_ : 0 ≤ x4_2
        · rw [if_pos c6_] at H
          have c6_b0 : decide (0 ≤ x4_2) = true := decide_eq_true c6_
          clear c6_
          replace H := Option.bind_eq_some_iff.mp H
          obtain ⟨t114, A7_0, H⟩ := H
          replace H : (if t114 = true then (spec_FamilyOf.l0 k4_ l0 (wrap64 (x4_2 + 1))) else (some ([], false))) = some (r1, r2) := H
          have A7_ := Aside0.mk A7_0
          clear A7_0
          by_cases c8_ : t114 = true
          · subst c8_
            have H1 : (spec_FamilyOf.l0 k4_ l0 (wrap64 (x4_2 + 1))) = some (r1, r2) := by rw [if_pos rfl] at H; exact H
            clear H
            have H := H1
            clear H1
            have H' := Aside0.mk H
            clear H
            have p113 : 0 ≤ (x4_2 : Int) := of_decide_eq_true (by first | (with_reducible assumption) | assumption)
            have q113 : (x4_2 : Int) < (l0.length : Int) := of_decide_eq_true (by first | (with_reducible assumption) | assumption)
            obtain ⟨ad113, e113, hx113⟩ := Kd.at_int HR0.out x4_2 p113 q113
            cases e113
            replace hx113 := (HM.out.below.cell (World.block_lt_of_cell? w _ hx113)).trans hx113
            replace p113 := eq_true p113
            replace q113 := eq_true q113
            go_wp2_with (first | ((with_reducible refine gate_callee (f := 35) rfl ?_); (with_reducible refine gate_dst (N := 15) rfl ?_); refine goesL_ (some 15) rfl rfl Try.func35 (by kernel_rfl) rfl #[.int .i64 (rd l0 x4_2)] rfl (by (try simp only [List.map_toArray, List.map_cons, List.map_nil]); first | done | rfl | (simp only [List.length_drop, List.length_take]; rfl)) ?_; (with_reducible refine (spec_l3Set.calls (rd l0 x4_2) true _  A7_.out).mono ?_); rintro e_ w9_ ⟨rfl, hd_⟩; refine ⟨_, rfl, ?_⟩; have hb := hd_.below; clear hd_; have n_ := Aside0.mk (HM.out.step hb); clear HM; have HM := n_; clear n_; clear hb))
            go_roundg k4_
            case measure => have hHK3__ := HK3_.out; omega
            case rel => exact ⟨(wrap64 (x4_2 + 1)), (by first | rfl | (simp; done) | (simp [*]; done)), H', ⟨by have hHK3__ := HK3_.out; omega⟩, HM⟩
          · replace c8_ := Bool.eq_false_iff.mpr c8_
            subst c8_
            have H1 : (some ([], false)) = some (r1, r2) := by rw [if_neg (show ¬ (false = true) by decide)] at H; exact H
            clear H
            have H := H1
            clear H1
            simp only [Option.some.injEq, Prod.mk.injEq] at H
            obtain ⟨rfl, rfl⟩ := H
            have p113 : 0 ≤ (x4_2 : Int) := of_decide_eq_true (by first | (with_reducible assumption) | assumption)
            have q113 : (x4_2 : Int) < (l0.length : Int) := of_decide_eq_true (by first | (with_reducible assumption) | assumption)
            obtain ⟨ad113, e113, hx113⟩ := Kd.at_int HR0.out x4_2 p113 q113
            cases e113
            replace hx113 := (HM.out.below.cell (World.block_lt_of_cell? w _ hx113)).trans hx113
            replace p113 := eq_true p113
            replace q113 := eq_true q113
            go_wp2_with (first | ((with_reducible refine gate_callee (f := 35) rfl ?_); (with_reducible refine gate_dst (N := 15) rfl ?_); refine goesL_ (some 15) rfl rfl Try.func35 (by kernel_rfl) rfl #[.int .i64 (rd l0 x4_2)] rfl (by (try simp only [List.map_toArray, List.map_cons, List.map_nil]); first | done | rfl | (simp only [List.length_drop, List.length_take]; rfl)) ?_; (with_reducible refine (spec_l3Set.calls (rd l0 x4_2) false _  A7_.out).mono ?_); rintro e_ w10_ ⟨rfl, hd_⟩; refine ⟨_, rfl, ?_⟩; have hb := hd_.below; clear hd_; have n_ := Aside0.mk (HM.out.step hb); clear HM; have HM := n_; clear n_; clear hb; have hcz12_0 : w10_.cell? ⟨gb1, 0, none⟩ = some (.slice none 0 0) := (blk_cell (HM.out.box 0 rfl) 0).trans rfl; have hfz12_0 := blk_frozen (HM.out.box 0 rfl) 0) | ((with_reducible refine gate_store (t := 24) (p := 2) rfl ?_); refine store_event (t := 24) (p := 2) (v := ?vow11_) (w1 := (w10_.setCell ⟨gb1, 0, none⟩ (.slice none 0 0))) ?hg ?ho ?hn ?hr ?_; (case ho => rfl); (case hg => rfl); (case hn => rfl); (case hr => first | (go_simp; done) | (go_simp; rfl)); intro w11_ hw; have n_ : Aside0 (MS w w11_ [.box gb1 24 #[.slice none 0 0]]) := ⟨by rw [hw]; exact HM.out.setBox 0 rfl _ _ rfl⟩; clear HM hw; have HM := n_; clear n_))
            refine bodyPost_ret (results_ct rfl _ _ gb1 24 #[.slice none 0 0] (0, 0) _ rfl (HM.out.box 0 rfl) Try.underlying24 rfl (by kernel_rfl)) rfl ?_
            exact ⟨_, by first | rfl | (simp; done) | (simp [*]; done), Kd.R_nil _ _ _ _ _, HM.out.below⟩
        · rw [if_neg c6_] at H
          have c6_b0 : decide (0 ≤ x4_2) = false := decide_eq_false c6_
          clear c6_
          exact absurd H (by simp)
      · rw [if_neg c5_] at H
        have c5_b0 : decide (x4_2 < (l0.length : Int)) = false := decide_eq_false c5_
        clear c5_
        replace H := Option.bind_eq_some_iff.mp H
        obtain ⟨t115, A13_0, H⟩ := H
        replace H : ((spec_l5Made.f k4_ t115).bind fun t116 => (some (t116, true))) = some (r1, r2) := H
        have A13_ := Aside0.mk A13_0
        clear A13_0
        replace H := Option.bind_eq_some_iff.mp H
        obtain ⟨t116, A14_0, H⟩ := H
        replace H : (some (t116, true)) = some (r1, r2) := H
        have A14_ := Aside0.mk A14_0
        clear A14_0
        simp only [Option.some.injEq, Prod.mk.injEq] at H
        obtain ⟨rfl, rfl⟩ := H
        go_wp2_with (first | ((with_reducible refine gate_callee (f := 37) rfl ?_); (with_reducible refine gate_dst (N := 20) rfl ?_); refine goesL_ (some 20) rfl rfl Try.func37 (by kernel_rfl) rfl #[.agg #[.slice A0 l0.length c0]] rfl (by (try simp only [List.map_toArray, List.map_cons, List.map_nil]); first | done | rfl | (simp only [List.length_drop, List.length_take]; rfl)) ?_; (with_reducible refine (spec_l5Members.calls k4_ _ _ l0 t115 _ ?sd0 ?sd1 A13_.out).mono ?_); (case sd0 => exact (Kd.C_below HR0.out HM.out.below)); (case sd1 => exact HC0.out); rintro e_ w15_ ⟨rfl, ho0_, hb⟩; refine ⟨_, rfl, ?_⟩; have HLt115 := Aside0.mk ho0_; have n_ := Aside0.mk (HM.out.step hb); clear HM; have HM := n_; clear n_; clear hb ho0_) | ((with_reducible refine gate_callee (f := 36) rfl ?_); (with_reducible refine gate_dst (N := 21) rfl ?_); refine goesL_ (some 21) rfl rfl Try.func36 (by kernel_rfl) rfl #[.agg (bcs t115)] rfl (by (try simp only [List.map_toArray, List.map_cons, List.map_nil]); first | done | rfl | (simp only [List.length_drop, List.length_take]; rfl)) ?_; (with_reducible refine (spec_l5Made.calls k4_ t115 t116 _ ?sd0 A14_.out).mono ?_); (case sd0 => exact HLt115.out); rintro e_ w16_ ⟨vv0_, rfl, ho0_, hb⟩; refine ⟨_, rfl, ?_⟩; obtain ⟨Ao2_0, co2_0, ev_⟩ := Kd.R_slice ho0_; subst ev_; have n_ := Aside0.mk (HM.out.addR hb ho0_); clear HM; have HM := n_; clear n_; clear hb ho0_; have hcz18_0 : w16_.cell? ⟨gb1, 0, none⟩ = some (.slice none 0 0) := (blk_cell (HM.out.box 1 rfl) 0).trans rfl; have hfz18_0 := blk_frozen (HM.out.box 1 rfl) 0) | ((with_reducible refine gate_store (t := 24) (p := 2) rfl ?_); refine store_event (t := 24) (p := 2) (v := ?vow17_) (w1 := (w16_.setCell ⟨gb1, 0, none⟩ (.slice Ao2_0 t116.length co2_0))) ?hg ?ho ?hn ?hr ?_; (case ho => rfl); (case hg => rfl); (case hn => rfl); (case hr => first | (go_simp; done) | (go_simp; rfl)); intro w17_ hw; have n_ : Aside0 (MS w w17_ [.row 3 (.slice Ao2_0 t116.length co2_0) (encs (Value.int .i64) t116), .box gb1 24 #[.slice Ao2_0 t116.length co2_0]]) := ⟨by rw [hw]; exact HM.out.setBox 1 rfl _ _ rfl⟩; clear HM hw; have HM := n_; clear n_))
        refine bodyPost_ret (results_ct rfl _ _ gb1 24 #[.slice Ao2_0 t116.length co2_0] (0, 0) _ rfl (HM.out.box 1 rfl) Try.underlying24 rfl (by kernel_rfl)) rfl ?_
        exact ⟨_, by first | rfl | (simp; done) | (simp [*]; done), HM.out.R 0 rfl, HM.out.below⟩

/-! ### slices_IndexFunc_int_int: function 66 -/
def slices_IndexFunc_int_int.l0 : Nat → (List Int) → (Int → Option Bool) → (Int) → (Int) → Option (Int)
  | 0, _, _, _, _ => none
  | k + 1, x0, x1, x7, x8 => if x8 < x7 then (if 0 ≤ x8 then (if x8 < (x0.length : Int) then ((x1 (rd x0 x8)).bind fun t118 => (if t118 = true then (some x8) else (slices_IndexFunc_int_int.l0 k x0 x1 x7 (wrap64 (x8 + 1))))) else (none)) else (none)) else (some (-1))
def slices_IndexFunc_int_int.f (k : Nat) (l0 : List Int) (g1 : Int → Option Bool) : Option (Int) := slices_IndexFunc_int_int.l0 k l0 g1 (l0.length : Int) 0
set_option maxHeartbeats 8000000 in
set_option maxRecDepth 100000 in
theorem slices_IndexFunc_int_int.calls (k : Nat) (A0 : Option Addr) (c0 : Nat) (l0 : List Int) (F1 : Value) (g1 : Int → Option Bool) (r : Int) (w : World) (hr0 : Kd.C (Kd.int .i64) w A0 l0.length l0) (hc0 : l0.length ≤ c0) (hf1 : FnB Try.prog w F1 g1) (h : slices_IndexFunc_int_int.f k l0 g1 = some r) :
    Calls Try.prog 66 #[.slice A0 l0.length c0, F1] w fun e w' => e = .returned (.int .i64 r) ∧ Below w.heap.size w w' := by
  have HR0 := Aside0.mk hr0
  have HC0 := Aside0.mk hc0
  clear hr0 hc0
  have HF1 := Aside0.mk hf1
  clear hf1
  have hu22 := Try.underlying22
  have HM := Aside0.mk (MS.start w)
  have H : (slices_IndexFunc_int_int.l0 k l0 g1 (l0.length : Int) 0) = some r := h
  clear h
  have H' := Aside0.mk H
  clear H
  go_enter Try.func66, Try.ntmps66
  go_wp2
  go_loopg [8] k (fun kq v8 w' => ∃ (x8_1 : Int), v8 = .int .i64 x8_1 ∧ Aside0 (slices_IndexFunc_int_int.l0 kq l0 g1 (l0.length : Int) x8_1 = some r) ∧ Aside0 (kq ≤ k) ∧ Aside0 (MS w w' []))
  case atStart => exact ⟨(0), (by first | rfl | (simp; done) | (simp [*]; done)), H', ⟨Nat.le_refl _⟩, HM⟩
  case round =>
    clear H'
    clear HM
    obtain ⟨x8_1, rfl, HA, HK2_, HM⟩ := hrel
    cases gk with
    | zero => exact absurd HA.out (by simp [slices_IndexFunc_int_int.l0])
    | succ k3_ =>
      have H := HA.out
      clear HA
      simp only [slices_IndexFunc_int_int.l0] at H
      by_cases c4_ : x8_1 < (l0.length : Int)
      · rw [if_pos c4_] at H
        have c4_b0 : decide (x8_1 < (l0.length : Int)) = true := decide_eq_true c4_
        clear c4_
        by_cases c5_ : 0 ≤ x8_1
        · rw [if_pos c5_] at H
          have c5_b0 : decide (0 ≤ x8_1) = true := decide_eq_true c5_
          clear c5_
          by_cases c6_ : x8_1 < (l0.length : Int)
          · rw [if_pos c6_] at H
            have c6_b0 : decide (x8_1 < (l0.length : Int)) = true := decide_eq_true c6_
            clear c6_
            replace H := Option.bind_eq_some_iff.mp H
            obtain ⟨t118, A7_0, H⟩ := H
            replace H : (if t118 = true then (some x8_1) else (slices_IndexFunc_int_int.l0 k3_ l0 g1 (l0.length : Int) (wrap64 (x8_1 + 1)))) = some r := H
            have A7_ := Aside0.mk A7_0
            clear A7_0
            by_cases c8_ : t118 = true
            · subst c8_
              have H1 : (some x8_1) = some r := by rw [if_pos rfl] at H; exact H
              clear H
              have H := H1
              clear H1
              obtain rfl := Option.some.inj H
              have p117 : 0 ≤ (x8_1 : Int) := of_decide_eq_true (by first | (with_reducible assumption) | assumption)
              have q117 : (x8_1 : Int) < (l0.length : Int) := of_decide_eq_true (by first | (with_reducible assumption) | assumption)
              obtain ⟨ad117, e117, hx117⟩ := Kd.at_int HR0.out x8_1 p117 q117
              cases e117
              replace hx117 := (HM.out.below.cell (World.block_lt_of_cell? w _ hx117)).trans hx117
              replace p117 := eq_true p117
              replace q117 := eq_true q117
              go_wp2_with (first | ((with_reducible refine gate_dst (N := 16) rfl ?_); refine goesB (some 16) rfl rfl (V := F1) (g := g1) (x := rd l0 x8_1) (r := true) rfl rfl rfl (FnB.below HF1.out HM.out.below) A7_.out ?_; intro w9_ hb; have n_ := Aside0.mk (HM.out.step hb); clear HM; have HM := n_; clear n_; clear hb))
              go_ret
              exact ⟨by first | rfl | (simp; done) | (simp [*]; done), HM.out.below⟩
            · replace c8_ := Bool.eq_false_iff.mpr c8_
              subst c8_
              have H1 : (slices_IndexFunc_int_int.l0 k3_ l0 g1 (l0.length : Int) (wrap64 (x8_1 + 1))) = some r := by rw [if_neg (show ¬ (false = true) by decide)] at H; exact H
              clear H
              have H := H1
              clear H1
              have H' := Aside0.mk H
              clear H
              have p117 : 0 ≤ (x8_1 : Int) := of_decide_eq_true (by first | (with_reducible assumption) | assumption)
              have q117 : (x8_1 : Int) < (l0.length : Int) := of_decide_eq_true (by first | (with_reducible assumption) | assumption)
              obtain ⟨ad117, e117, hx117⟩ := Kd.at_int HR0.out x8_1 p117 q117
              cases e117
              replace hx117 := (HM.out.below.cell (World.block_lt_of_cell? w _ hx117)).trans hx117
              replace p117 := eq_true p117
              replace q117 := eq_true q117
              go_wp2_with (first | ((with_reducible refine gate_dst (N := 16) rfl ?_); refine goesB (some 16) rfl rfl (V := F1) (g := g1) (x := rd l0 x8_1) (r := false) rfl rfl rfl (FnB.below HF1.out HM.out.below) A7_.out ?_; intro w10_ hb; have n_ := Aside0.mk (HM.out.step hb); clear HM; have HM := n_; clear n_; clear hb))
              go_roundg k3_
              case measure => have hHK2__ := HK2_.out; omega
              case rel => exact ⟨(wrap64 (x8_1 + 1)), (by first | rfl | (simp; done) | (simp [*]; done)), H', ⟨by have hHK2__ := HK2_.out; omega⟩, HM⟩
          · rw [if_neg c6_] at H
            have c6_b0 : decide (x8_1 < (l0.length : Int)) = false := decide_eq_false c6_
            clear c6_
            exact absurd H (by simp)
        · rw [if_neg c5_] at H
          have c5_b0 : decide (0 ≤ x8_1) = false := decide_eq_false c5_
          clear c5_
          exact absurd H (by simp)
      · rw [if_neg c4_] at H
        have c4_b0 : decide (x8_1 < (l0.length : Int)) = false := decide_eq_false c4_
        clear c4_
        obtain rfl := Option.some.inj H
        go_wp2
        go_ret
        exact ⟨by first | rfl | (simp; done) | (simp [*]; done), HM.out.below⟩

/-! ### slices_ContainsFunc_int_int: function 38 -/
def slices_ContainsFunc_int_int.f (k : Nat) (l0 : List Int) (g1 : Int → Option Bool) : Option (Bool) := (slices_IndexFunc_int_int.f k l0 g1).bind fun t119 => (some (decide (t119 ≥ 0)))
set_option maxHeartbeats 8000000 in
set_option maxRecDepth 100000 in
theorem slices_ContainsFunc_int_int.calls (k : Nat) (A0 : Option Addr) (c0 : Nat) (l0 : List Int) (F1 : Value) (g1 : Int → Option Bool) (r : Bool) (w : World) (hr0 : Kd.C (Kd.int .i64) w A0 l0.length l0) (hc0 : l0.length ≤ c0) (hf1 : FnB Try.prog w F1 g1) (h : slices_ContainsFunc_int_int.f k l0 g1 = some r) :
    Calls Try.prog 38 #[.slice A0 l0.length c0, F1] w fun e w' => e = .returned (.bool r) ∧ Below w.heap.size w w' := by
  have HR0 := Aside0.mk hr0
  have HC0 := Aside0.mk hc0
  clear hr0 hc0
  have HF1 := Aside0.mk hf1
  clear hf1
  have HM := Aside0.mk (MS.start w)
  have H : ((slices_IndexFunc_int_int.f k l0 g1).bind fun t119 => (some (decide (t119 ≥ 0)))) = some r := h
  clear h
  replace H := Option.bind_eq_some_iff.mp H
  obtain ⟨t119, A1_0, H⟩ := H
  replace H : (some (decide (t119 ≥ 0))) = some r := H
  have A1_ := Aside0.mk A1_0
  clear A1_0
  obtain rfl := Option.some.inj H
  go_enter Try.func38, Try.ntmps38
  go_wp2_with (first | ((with_reducible refine gate_callee (f := 66) rfl ?_); (with_reducible refine gate_dst (N := 7) rfl ?_); refine goesL_ (some 7) rfl rfl Try.func66 (by kernel_rfl) rfl #[.slice A0 l0.length c0, F1] rfl (by (try simp only [List.map_toArray, List.map_cons, List.map_nil]); first | done | rfl | (simp only [List.length_drop, List.length_take]; rfl)) ?_; (with_reducible refine (slices_IndexFunc_int_int.calls k _ _ l0 _ g1 t119 _ ?sd0 ?sd1 ?sd2 A1_.out).mono ?_); (case sd0 => exact (Kd.C_below HR0.out HM.out.below)); (case sd1 => exact HC0.out); (case sd2 => exact (FnB.below HF1.out HM.out.below)); rintro e_ w2_ ⟨rfl, hb⟩; refine ⟨_, rfl, ?_⟩; have n_ := Aside0.mk (HM.out.step hb); clear HM; have HM := n_; clear n_; clear hb))
  go_ret
  exact ⟨by first | rfl | (simp; done) | (simp [*]; done), HM.out.below⟩

/-! ### impl_isSet: function 40 -/
def impl_isSet.f (a0 : Int) : Option (Bool) := if a0 ≥ 0 then (some (decide (a0 < 64))) else (some false)
set_option maxHeartbeats 8000000 in
set_option maxRecDepth 100000 in
theorem impl_isSet.calls (a0 : Int) (r : Bool) (w : World)  (h : impl_isSet.f a0 = some r) :
    Calls Try.prog 40 #[.int .i64 a0] w fun e w' => e = .returned (.bool r) ∧ Drawn0 w w' := by
  have HM := Aside0.mk (MS.start w)
  have HD := Aside0.mk (Drawn0.refl w)
  have H : (if a0 ≥ 0 then (some (decide (a0 < 64))) else (some false)) = some r := h
  clear h
  by_cases c1_ : a0 ≥ 0
  · rw [if_pos c1_] at H
    have KNc1_ := Aside0.mk c1_
    have c1_b0 : decide (0 ≤ a0) = true := decide_eq_true c1_
    clear c1_
    obtain rfl := Option.some.inj H
    go_enter Try.func40, Try.ntmps40
    go_wp2
    go_ret
    exact ⟨by first | rfl | (simp; done) | (simp [*]; done), HD.out⟩
  · rw [if_neg c1_] at H
    have KNc1_ := Aside0.mk c1_
    have c1_b0 : decide (0 ≤ a0) = false := decide_eq_false c1_
    clear c1_
    obtain rfl := Option.some.inj H
    go_enter Try.func40, Try.ntmps40
    go_wp2
    go_ret
    exact ⟨by first | rfl | (simp; done) | (simp [*]; done), HD.out⟩

/-! ### impl_FamilyOf_1: function 39 -/
def impl_FamilyOf_1.f (a0 : Int) : Option (Bool) := (impl_isSet.f a0).bind fun t120 => (some (!t120))
set_option maxHeartbeats 8000000 in
set_option maxRecDepth 100000 in
theorem impl_FamilyOf_1.calls (a0 : Int) (r : Bool) (w : World)  (h : impl_FamilyOf_1.f a0 = some r) :
    Calls Try.prog 39 #[.int .i64 a0] w fun e w' => e = .returned (.bool r) ∧ Drawn0 w w' := by
  have HM := Aside0.mk (MS.start w)
  have HD := Aside0.mk (Drawn0.refl w)
  have H : ((impl_isSet.f a0).bind fun t120 => (some (!t120))) = some r := h
  clear h
  replace H := Option.bind_eq_some_iff.mp H
  obtain ⟨t120, A1_0, H⟩ := H
  replace H : (some (!t120)) = some r := H
  have A1_ := Aside0.mk A1_0
  clear A1_0
  obtain rfl := Option.some.inj H
  go_enter Try.func39, Try.ntmps39
  go_wp2_with (first | ((with_reducible refine gate_callee (f := 40) rfl ?_); (with_reducible refine gate_dst (N := 4) rfl ?_); refine goesL_ (some 4) rfl rfl Try.func40 (by kernel_rfl) rfl #[.int .i64 a0] rfl (by (try simp only [List.map_toArray, List.map_cons, List.map_nil]); first | done | rfl | (simp only [List.length_drop, List.length_take]; rfl)) ?_; (with_reducible refine (impl_isSet.calls a0 t120 _  A1_.out).mono ?_); rintro e_ w2_ ⟨rfl, hd_⟩; refine ⟨_, rfl, ?_⟩; have hb := hd_.below; have nd_ := Aside0.mk (HD.out.trans hd_); clear HD; have HD := nd_; clear nd_; clear hd_; have n_ := Aside0.mk (HM.out.step hb); clear HM; have HM := n_; clear n_; clear hb))
  go_ret
  exact ⟨by first | rfl | (simp; done) | (simp [*]; done), HD.out⟩

/-! ### impl_Family_has_1: function 69 -/
def impl_Family_has_1.f (a0 : Int) (a1 : Int) : Option (Bool) := some ((Go.bits .and .i64 a0 a1) == a0)
set_option maxHeartbeats 8000000 in
set_option maxRecDepth 100000 in
theorem impl_Family_has_1.calls (a0 : Int) (gb1 : Nat) (a1 : Int) (r : Bool) (w : World) (hq1 : w.heap[gb1]? = some (.cells #[.int .i64 a1] 3 (0, 0))) (h : impl_Family_has_1.f a0 a1 = some r) :
    Calls Try.prog 69 #[.int .i64 a0, .pointer (some ⟨gb1, 0, none⟩)] w fun e w' => e = .returned (.bool r) ∧ Drawn0 w w' := by
  have HQ1 := Aside0.mk hq1
  clear hq1
  have HM := Aside0.mk (MS.start w)
  have HD := Aside0.mk (Drawn0.refl w)
  have H : (some ((Go.bits .and .i64 a0 a1) == a0)) = some r := h
  clear h
  obtain rfl := Option.some.inj H
  have hcz1_0 : w.cell? ⟨gb1, 0, none⟩ = some (.int .i64 a1) := (blk_cell (blk_below HQ1.out HM.out.below) 0).trans rfl
  have hfz1_0 := blk_frozen (blk_below HQ1.out HM.out.below) 0
  go_enter Try.func69, Try.ntmps69
  go_wp2
  go_ret
  exact ⟨by first | rfl | (simp; done) | (simp [*]; done), HD.out⟩

/-! ### impl_Family_has: function 42 -/
def impl_Family_has.f (k : Nat) (l0_0 : List Int) (a1 : Int) : Option (Bool) := (slices_ContainsFunc_int_int.f k l0_0 (fun x_ => impl_Family_has_1.f x_ a1)).bind fun t122 => (some t122)
set_option maxHeartbeats 8000000 in
set_option maxRecDepth 100000 in
theorem impl_Family_has.calls (k : Nat) (A0_0 : Option Addr) (c0_0 : Nat) (l0_0 : List Int) (a1 : Int) (r : Bool) (w : World) (hr0_0 : Kd.C (Kd.int .i64) w A0_0 l0_0.length l0_0) (hc0_0 : l0_0.length ≤ c0_0) (h : impl_Family_has.f k l0_0 a1 = some r) :
    Calls Try.prog 42 #[.agg #[.slice A0_0 l0_0.length c0_0], .int .i64 a1] w fun e w' => e = .returned (.bool r) ∧ Below w.heap.size w w' := by
  have HR0_0 := Aside0.mk hr0_0
  have HC0_0 := Aside0.mk hc0_0
  clear hr0_0 hc0_0
  have hu22 := Try.underlying22
  have hu24 := Try.underlying24
  have HM := Aside0.mk (MS.start w)
  have H : ((slices_ContainsFunc_int_int.f k l0_0 (fun x_ => impl_Family_has_1.f x_ a1)).bind fun t122 => (some t122)) = some r := h
  clear h
  replace H := Option.bind_eq_some_iff.mp H
  obtain ⟨t122, A1_0, H⟩ := H
  replace H : (some t122) = some r := H
  have A1_ := Aside0.mk A1_0
  clear A1_0
  obtain rfl := Option.some.inj H
  go_enter Try.func42, Try.ntmps42
  go_wp2_with (first | ((with_reducible refine gate_dst (N := 2) rfl ?_); refine box_event ?hg (N := 2) ?hd (cs := #[.slice A0_0 l0_0.length c0_0]) (t := 24) ?hr ?_; (case hd => rfl); (case hg => rfl); (case hr => first | (go_simp; done) | (go_simp; rfl)); intro gb1 hg w2_ hbox hb; have n_ := Aside0.mk (HM.out.addBox hb hbox hg); clear HM; have HM := n_; clear n_; clear hb hbox hg) | ((with_reducible refine gate_dst (N := 3) rfl ?_); refine box_event ?hg (N := 3) ?hd (cs := #[.int .i64 a1]) (t := 3) ?hr ?_; (case hd => rfl); (case hg => rfl); (case hr => first | (go_simp; done) | (go_simp; rfl)); intro gb2 hg w3_ hbox hb; have n_ := Aside0.mk (HM.out.addBox hb hbox hg); clear HM; have HM := n_; clear n_; clear hb hbox hg; have hcz4_0 : w3_.cell? ⟨gb1, 0, none⟩ = some (.slice A0_0 l0_0.length c0_0) := (blk_cell (HM.out.box 1 rfl) 0).trans rfl; have hfz4_0 := blk_frozen (HM.out.box 1 rfl) 0; have fv121 := Aside0.mk (show FnB Try.prog w3_ (.func (.func 69) #[] #[.pointer (some ⟨gb2, 0, none⟩)]) (fun x_ => impl_Family_has_1.f x_ a1) from FnB.mk Try.func69 rfl rfl (fun W_ hW_ x_ r_ hr_ => (show Calls Try.prog 69 #[.int .i64 x_, .pointer (some ⟨gb2, 0, none⟩)] W_ _ from drawn_calls (impl_Family_has_1.calls x_ _ a1 r_ W_ (blk_below (HM.out.box 0 rfl) hW_) hr_))))) | ((with_reducible refine gate_callee (f := 38) rfl ?_); (with_reducible refine gate_dst (N := 8) rfl ?_); refine goesL_ (some 8) rfl rfl Try.func38 (by kernel_rfl) rfl #[.slice A0_0 l0_0.length c0_0, .func (.func 69) #[] #[.pointer (some ⟨gb2, 0, none⟩)]] rfl (by (try simp only [List.map_toArray, List.map_cons, List.map_nil]); first | done | rfl | (simp only [List.length_drop, List.length_take]; rfl)) ?_; (with_reducible refine (slices_ContainsFunc_int_int.calls k _ _ l0_0 _ (fun x_ => impl_Family_has_1.f x_ a1) t122 _ ?sd0 ?sd1 ?sd2 A1_.out).mono ?_); (case sd0 => exact (Kd.C_below HR0_0.out HM.out.below)); (case sd1 => exact HC0_0.out); (case sd2 => exact fv121.out); rintro e_ w5_ ⟨rfl, hb⟩; refine ⟨_, rfl, ?_⟩; have n_ := Aside0.mk (HM.out.step hb); clear HM; have HM := n_; clear n_; clear hb))
  go_ret
  exact ⟨by first | rfl | (simp; done) | (simp [*]; done), HM.out.below⟩

/-! ### impl_tableOf: function 68 -/
def impl_tableOf.l0 : Nat → (Int → Option Bool) → (Int) → (List Bool) → Option (List Bool)
  | 0, _, _, _ => none
  | k + 1, x0, x6, m2 => if x6 < 64 then ((x0 x6).bind fun t123 => (if 0 ≤ x6 then (impl_tableOf.l0 k x0 (wrap64 (x6 + 1)) (m2.set (x6 : Int).toNat t123)) else (none))) else (some m2)
def impl_tableOf.f (k : Nat) (g0 : Int → Option Bool) : Option (List Bool) := impl_tableOf.l0 k g0 0 (List.replicate 64 false)
set_option maxHeartbeats 8000000 in
set_option maxRecDepth 100000 in
theorem impl_tableOf.calls (k : Nat) (F0 : Value) (g0 : Int → Option Bool) (r : List Bool) (w : World) (hf0 : FnB Try.prog w F0 g0) (h : impl_tableOf.f k g0 = some r) :
    Calls Try.prog 68 #[F0] w fun e w' => e = .returned (.agg (bcs r)) ∧ r.length = 64 ∧ Below w.heap.size w w' := by
  have HF0 := Aside0.mk hf0
  clear hf0
  have hu46 := Try.underlying46
  have HM := Aside0.mk (MS.start w)
  have H : (impl_tableOf.l0 k g0 0 (List.replicate 64 false)) = some r := h
  clear h
  have H' := Aside0.mk H
  clear H
  go_enter Try.func68, Try.ntmps68
  go_wp2_with (first | ((with_reducible refine gate_dst (N := 2) rfl ?_); refine box_event ?hg (N := 2) ?hd (cs := (bcs (List.replicate 64 false))) (t := 46) ?hr ?_; (case hd => rfl); (case hg => rfl); (case hr => first | (go_simp; done) | (go_simp; rfl)); intro gb1 hg w1_ hbox hb; have n_ := Aside0.mk (HM.out.addBox hb hbox hg); clear HM; have HM := n_; clear n_; clear hb hbox hg) | ((with_reducible refine gate_dst (N := 5) rfl ?_); refine build_zero ?hg (N := 5) ?hd (cs := (bcs (List.replicate 64 false))) ?hr ?_; (case hd => rfl); (case hg => rfl); (case hr => first | (go_simp; done) | (go_simp; rfl))) | ((with_reducible refine gate_dst (N := 3) rfl ?_); refine box_event ?hg (N := 3) ?hd (cs := (bcs (List.replicate 64 false))) (t := 46) ?hr ?_; (case hd => rfl); (case hg => rfl); (case hr => first | (go_simp; done) | (go_simp; rfl)); intro gb2 hg w2_ hbox hb; have n_ := Aside0.mk (HM.out.addBox hb hbox hg); clear HM; have HM := n_; clear n_; clear hb hbox hg) | ((with_reducible refine gate_store (t := 46) (p := 3) rfl ?_); refine wpList_store_row rfl _ _ _ rfl gb2 (bcs (List.replicate 64 false)) rfl rfl 46 (bcs (List.replicate 64 false)) (HM.out.box 0 rfl) (by rw [bcs_size, (List.length_replicate)]; kernel_rfl) ((bcs_size _).trans (((List.length_replicate)).trans ((show _ = 64 from (List.length_replicate)).symm.trans (bcs_size _).symm))) (bcs_one _) ?_; generalize hw : World.setRow _ _ _ = w3_; have n_ : Aside0 (MS w w3_ [.box gb2 46 (bcs (List.replicate 64 false)), .box gb1 46 (bcs (List.replicate 64 false))]) := ⟨by rw [← hw]; exact HM.out.setRow 0 rfl _⟩; clear HM hw; have HM := n_; clear n_))
  go_loopg [6] k (fun kq v6 w' => ∃ (x6_4 : Int) (m2_4 : List Bool), v6 = .int .i64 x6_4 ∧ Aside0 (impl_tableOf.l0 kq g0 x6_4 m2_4 = some r) ∧ Aside0 (kq ≤ k) ∧ Aside0 (m2_4.length = 64) ∧ Aside0 (MS w w' [.box gb2 46 (bcs m2_4), .box gb1 46 (bcs (List.replicate 64 false))]))
  case atStart => exact ⟨(0), ((List.replicate 64 false)), (by first | rfl | (simp; done) | (simp [*]; done)), H', ⟨Nat.le_refl _⟩, ⟨(List.length_replicate)⟩, HM⟩
  case round =>
    clear H'
    clear HM
    obtain ⟨x6_4, m2_4, rfl, HA, HK5_, HLm2_4, HM⟩ := hrel
    cases gk with
    | zero => exact absurd HA.out (by simp [impl_tableOf.l0])
    | succ k6_ =>
      have H := HA.out
      clear HA
      simp only [impl_tableOf.l0] at H
      by_cases c7_ : x6_4 < 64
      · rw [if_pos c7_] at H
        have c7_b0 : decide (x6_4 < 64) = true := decide_eq_true c7_
        clear c7_
        replace H := Option.bind_eq_some_iff.mp H
        obtain ⟨t123, A8_0, H⟩ := H
        replace H : (if 0 ≤ x6_4 then (impl_tableOf.l0 k6_ g0 (wrap64 (x6_4 + 1)) (m2_4.set (x6_4 : Int).toNat t123)) else (none)) = some r := H
        have A8_ := Aside0.mk A8_0
        clear A8_0
        by_cases c9_ : 0 ≤ x6_4
        · rw [if_pos c9_] at H
          have c9_b0 : decide (0 ≤ x6_4) = true := decide_eq_true c9_
          clear c9_
          obtain ⟨y124, hy124⟩ : ∃ y_, y_ = (m2_4.set (x6_4 : Int).toNat t123) := ⟨_, rfl⟩
          replace H : (impl_tableOf.l0 k6_ g0 (wrap64 (x6_4 + 1)) y124) = some r := by first | (rw [hy124]; with_reducible exact H) | (have H2_ := (Option.bind_some _ _).symm.trans H; rw [hy124]; with_reducible exact H2_) | (have H2_ := (Option.bind_some _ _).symm.trans H; with_reducible exact H2_) | with_reducible exact H | (rw [hy124]; exact H) | exact H
          have Ny124 := Aside0.mk hy124
          clear hy124
          have H' := Aside0.mk H
          clear H
          go_wp2_with (first | ((with_reducible refine gate_dst (N := 12) rfl ?_); refine goesB (some 12) rfl rfl (V := F0) (g := g0) (x := x6_4) (r := t123) rfl rfl rfl (FnB.below HF0.out HM.out.below) A8_.out ?_; intro w10_ hb; have n_ := Aside0.mk (HM.out.step hb); clear HM; have HM := n_; clear n_; clear hb; have p125 : 0 ≤ (x6_4 : Int) := of_decide_eq_true (by first | (with_reducible assumption) | assumption); have q125 : (x6_4 : Int) < 64 := of_decide_eq_true (by first | (with_reducible assumption) | assumption); have hx125 := bcell (HM.out.box 0 rfl) x6_4 p125 (by have := HLm2_4.out; omega); have hf125 := blk_frozen (HM.out.box 0 rfl) (x6_4 : Int).toNat; replace p125 := eq_true p125; replace q125 := eq_true q125) | ((with_reducible refine gate_store (t := 4) (p := 13) rfl ?_); refine store_event (t := 4) (p := 13) (v := ?vow11_) (w1 := (w10_.setCell ⟨gb2, (x6_4 : Int).toNat, none⟩ (.bool t123))) ?hg ?ho ?hn ?hr ?_; (case ho => rfl); (case hg => rfl); (case hn => rfl); (case hr => first | (go_simp; done) | (go_simp; rfl)); intro w11_ hw; have n_ : Aside0 (MS w w11_ [.box gb2 46 (bcs y124), .box gb1 46 (bcs (List.replicate 64 false))]) := ⟨by rw [hw]; exact HM.out.setBox 0 rfl _ _ (by rw [bcs_set, ← Ny124.out])⟩; clear HM hw; have HM := n_; clear n_))
          go_roundg k6_
          case measure => have hHK5__ := HK5_.out; omega
          case rel => exact ⟨(wrap64 (x6_4 + 1)), (y124), (by first | rfl | (simp; done) | (simp [*]; done)), H', ⟨by have hHK5__ := HK5_.out; omega⟩, ⟨(show y124.length = 64 from by rw [Ny124.out, List.length_set]; exact HLm2_4.out)⟩, HM⟩
        · rw [if_neg c9_] at H
          have c9_b0 : decide (0 ≤ x6_4) = false := decide_eq_false c9_
          clear c9_
          exact absurd H (by simp)
      · rw [if_neg c7_] at H
        have c7_b0 : decide (x6_4 < 64) = false := decide_eq_false c7_
        clear c7_
        obtain rfl := Option.some.inj H
        go_wp2_with (first | ((with_reducible refine gate_dst (N := 15) rfl ?_); refine wpList_load_row rfl _ _ rfl gb2 rfl 46 (bcs m2_4) (0, 0) _ (HM.out.box 0 rfl) Try.underlying46 rfl (by rw [bcs_size, HLm2_4.out]; kernel_rfl) ?_) | ((with_reducible refine gate_store (t := 46) (p := 2) rfl ?_); refine wpList_store_row rfl _ _ _ rfl gb1 (bcs m2_4) rfl rfl 46 (bcs (List.replicate 64 false)) (HM.out.box 1 rfl) (by rw [bcs_size, HLm2_4.out]; kernel_rfl) ((bcs_size _).trans (((List.length_replicate)).trans ((show _ = 64 from HLm2_4.out).symm.trans (bcs_size _).symm))) (bcs_one _) ?_; generalize hw : World.setRow _ _ _ = w12_; have n_ : Aside0 (MS w w12_ [.box gb2 46 (bcs m2_4), .box gb1 46 (bcs m2_4)]) := ⟨by rw [← hw]; exact HM.out.setRow 1 rfl _⟩; clear HM hw; have HM := n_; clear n_))
        refine bodyPost_ret (results_cell_row rfl _ _ gb1 46 (bcs m2_4) (0, 0) _ rfl (HM.out.box 1 rfl) Try.underlying46 rfl (by rw [bcs_size, HLm2_4.out]; kernel_rfl)) rfl ?_
        exact ⟨by first | rfl | (simp; done) | (simp [*]; done), HLm2_4.out, HM.out.below⟩

/-! ### impl_leastOf: function 67 -/
mutual
def impl_leastOf.l0 : Nat → (List Bool) → (Int) → (List Int) → (List Bool) → Option (List Int)
  | 0, _, _, _, _ => none
  | k + 1, x9, x10, m2, m1 => if x10 < 64 then (if 0 ≤ x10 then (impl_leastOf.l1 k x10 (rdOf false x9 x10) x9 x10 x10 0 m2 m1) else (none)) else (some m2)
def impl_leastOf.l1 : Nat → (Int) → (Bool) → (List Bool) → (Int) → (Int) → (Int) → (List Int) → (List Bool) → Option (List Int)
  | 0, _, _, _, _, _, _, _, _ => none
  | k + 1, x4, x6, x9, x10, x15, x16, m2, m1 => if x16 < x15 then (if x6 = true then (if (Go.bits .and .i64 x16 x4) = x16 then (if 0 ≤ x16 then (if x16 < 64 then (impl_leastOf.l1 k x4 (!(rdOf false m1 x16)) x9 x10 x15 (wrap64 (x16 + 1)) m2 m1) else (none)) else (none)) else (impl_leastOf.l1 k x4 (!false) x9 x10 x15 (wrap64 (x16 + 1)) m2 m1)) else (impl_leastOf.l1 k x4 false x9 x10 x15 (wrap64 (x16 + 1)) m2 m1)) else (if x6 = true then (if m2.length < 17592186044416 then (impl_leastOf.l0 k x9 (wrap64 (x10 + 1)) (m2 ++ [x4]) m1) else (none)) else (impl_leastOf.l0 k x9 (wrap64 (x10 + 1)) m2 m1))
end
def impl_leastOf.f (k : Nat) (l0 : List Bool) : Option (List Int) := impl_leastOf.l0 k l0 0 (([] : List Int)) l0
set_option maxHeartbeats 8000000 in
set_option maxRecDepth 100000 in
theorem impl_leastOf.calls (k : Nat) (l0 : List Bool) (r : List Int) (w : World) (hl0 : l0.length = 64) (h : impl_leastOf.f k l0 = some r) :
    Calls Try.prog 67 #[.agg (bcs l0)] w fun e w' => ∃ v0_ : Value, e = .returned (v0_) ∧ Kd.R (Kd.int .i64) 3 w' w.heap.size (fun _ => True) v0_ r ∧ Below w.heap.size w w' := by
  have HL0 := Aside0.mk hl0
  clear hl0
  have hu46 := Try.underlying46
  have HM := Aside0.mk (MS.start w)
  have H : (impl_leastOf.l0 k l0 0 (([] : List Int)) l0) = some r := h
  clear h
  obtain ⟨y126, hy126⟩ : ∃ y_, y_ = (([] : List Int)) := ⟨_, rfl⟩
  replace H : (impl_leastOf.l0 k l0 0 y126 l0) = some r := by first | (rw [hy126]; with_reducible exact H) | (have H2_ := (Option.bind_some _ _).symm.trans H; rw [hy126]; with_reducible exact H2_) | (have H2_ := (Option.bind_some _ _).symm.trans H; with_reducible exact H2_) | with_reducible exact H | (rw [hy126]; exact H) | exact H
  have Ny126 := Aside0.mk hy126
  clear hy126
  have H' := Aside0.mk H
  clear H
  go_enter Try.func67, Try.ntmps67
  go_wp2_with (first | ((with_reducible refine gate_dst (N := 1) rfl ?_); refine box_event ?hg (N := 1) ?hd (cs := (bcs l0)) (t := 46) ?hr ?_; (case hd => rfl); (case hg => rfl); (case hr => first | (go_simp; done) | (go_simp; rfl)); intro gb1 hg w1_ hbox hb; have n_ := Aside0.mk (HM.out.addBox hb hbox hg); clear HM; have HM := n_; clear n_; clear hb hbox hg) | ((with_reducible refine gate_dst (N := 8) rfl ?_); refine Kd.R_lit (Kd.int .i64) _ 3 ?hg (N := 8) ?hd (xs := ([] : List Int)) (inner := []) (ok := fun _ => True) (okp := fun _ => True) ?hr ?hp (fun _ hk => hk) trivial (Below.refl _ _) (Nat.le_refl _) (by simp) ?_; (case hd => rfl); (case hg => rfl); (case hr => first | (go_simp; done) | (go_simp; rfl)); (case hp => exact (Reps.none _ _)); intro vv_ w2_ ho hb hg_ hnew_; clear hg_ hnew_; rw [← Ny126.out] at ho; obtain ⟨Ao2_0, co2_0, ev_⟩ := Kd.R_slice ho; subst ev_; have n_ := Aside0.mk (HM.out.addR hb ho); clear HM; have HM := n_; clear n_; clear hb ho) | ((with_reducible refine gate_dst (N := 9) rfl ?_); refine wpList_load_row rfl _ _ rfl gb1 rfl 46 (bcs l0) (0, 0) _ (HM.out.box 1 rfl) Try.underlying46 rfl (by rw [bcs_size, HL0.out]; kernel_rfl) ?_))
  go_loopg [3, 10] k (fun kq v3 v10 w' => ∃ (x10_3 : Int) (Am2_3 : Option Addr) (cm2_3 : Nat) (m2_3 : List Int), v10 = .int .i64 x10_3 ∧ v3 = .slice Am2_3 m2_3.length cm2_3 ∧ Aside0 (impl_leastOf.l0 kq l0 x10_3 m2_3 l0 = some r) ∧ Aside0 (kq ≤ k) ∧ Aside0 (MS w w' [.row 3 (.slice Am2_3 m2_3.length cm2_3) (encs (Value.int .i64) m2_3), .box gb1 46 (bcs l0)]))
  case atStart => exact ⟨(0), (Ao2_0), (co2_0), (y126), (by first | rfl | (simp; done) | (simp [*]; done)), (by first | rfl | (simp; done) | (simp [*]; done)), H', ⟨Nat.le_refl _⟩, HM⟩
  case round =>
    clear H'
    clear HM
    obtain ⟨x10_3, Am2_3, cm2_3, m2_3, rfl, rfl, HA, HK4_, HM⟩ := hrel
    cases gk with
    | zero => exact absurd HA.out (by simp [impl_leastOf.l0])
    | succ k5_ =>
      have H := HA.out
      clear HA
      simp only [impl_leastOf.l0] at H
      by_cases c6_ : x10_3 < 64
      · rw [if_pos c6_] at H
        have c6_b0 : decide (x10_3 < 64) = true := decide_eq_true c6_
        clear c6_
        by_cases c7_ : 0 ≤ x10_3
        · rw [if_pos c7_] at H
          have c7_b0 : decide (0 ≤ x10_3) = true := decide_eq_true c7_
          clear c7_
          have H' := Aside0.mk H
          clear H
          have p127 : 0 ≤ (x10_3 : Int) := of_decide_eq_true (by first | (with_reducible assumption) | assumption)
          have q127 : (x10_3 : Int) < 64 := of_decide_eq_true (by first | (with_reducible assumption) | assumption)
          have hp127 := Aside0.mk p127
          have hq127 := Aside0.mk q127
          clear p127 q127
          go_wp2_with (first | ((with_reducible refine gate_dst (N := 13) rfl ?_); refine idxB (t := 46) (e := 4) rfl rfl rfl rfl Try.underlying46 (by kernel_rfl) (by kernel_rfl) HL0.out hp127.out hq127.out ?_))
          obtain ⟨wo8_, rfl⟩ : ∃ wo_ : World, wo_ = wr := ⟨_, rfl⟩
          go_loopg [6, 16] k5_ (fun kq v6 v16 w' => ∃ (x6_9 : Bool) (x16_9 : Int), v6 = .bool x6_9 ∧ v16 = .int .i64 x16_9 ∧ Aside0 (impl_leastOf.l1 kq x10_3 x6_9 l0 x10_3 x10_3 x16_9 m2_3 l0 = some r) ∧ Aside0 (kq ≤ k5_) ∧ Aside0 (MS w w' [.row 3 (.slice Am2_3 m2_3.length cm2_3) (encs (Value.int .i64) m2_3), .box gb1 46 (bcs l0)]))
          case atStart => exact ⟨((rdOf false l0 x10_3)), (0), (by first | rfl | (simp; done) | (simp [*]; done)), (by first | rfl | (simp; done) | (simp [*]; done)), H', ⟨Nat.le_refl _⟩, HM⟩
          case round =>
            clear H'
            clear HM
            obtain ⟨x6_9, x16_9, rfl, rfl, HA, HK10_, HM⟩ := hrel
            cases gk with
            | zero => exact absurd HA.out (by simp [impl_leastOf.l1])
            | succ k11_ =>
              have H := HA.out
              clear HA
              simp only [impl_leastOf.l1] at H
              by_cases c12_ : x16_9 < x10_3
              · rw [if_pos c12_] at H
                have c12_b0 : decide (x16_9 < x10_3) = true := decide_eq_true c12_
                clear c12_
                by_cases c13_ : x6_9 = true
                · subst c13_
                  have H1 : (if (Go.bits .and .i64 x16_9 x10_3) = x16_9 then (if 0 ≤ x16_9 then (if x16_9 < 64 then (impl_leastOf.l1 k11_ x10_3 (!(rdOf false l0 x16_9)) l0 x10_3 x10_3 (wrap64 (x16_9 + 1)) m2_3 l0) else (none)) else (none)) else (impl_leastOf.l1 k11_ x10_3 (!false) l0 x10_3 x10_3 (wrap64 (x16_9 + 1)) m2_3 l0)) = some r := by rw [if_pos rfl] at H; exact H
                  clear H
                  have H := H1
                  clear H1
                  by_cases c14_ : (Go.bits .and .i64 x16_9 x10_3) = x16_9
                  · rw [if_pos c14_] at H
                    have c14_b0 : ((Go.bits .and .i64 x16_9 x10_3) == x16_9) = true := beq_iff_eq.mpr c14_
                    have c14_b1 : ((Go.bits .and .i64 x16_9 x10_3) != x16_9) = false := bne_eq_false_iff_eq.mpr c14_
                    clear c14_
                    by_cases c15_ : 0 ≤ x16_9
                    · rw [if_pos c15_] at H
                      have c15_b0 : decide (0 ≤ x16_9) = true := decide_eq_true c15_
                      clear c15_
                      by_cases c16_ : x16_9 < 64
                      · rw [if_pos c16_] at H
                        have c16_b0 : decide (x16_9 < 64) = true := decide_eq_true c16_
                        clear c16_
                        have H' := Aside0.mk H
                        clear H
                        have p128 : 0 ≤ (x16_9 : Int) := of_decide_eq_true (by first | (with_reducible assumption) | assumption)
                        have q128 : (x16_9 : Int) < 64 := of_decide_eq_true (by first | (with_reducible assumption) | assumption)
                        have hx128 := bcell (HM.out.box 1 rfl) x16_9 p128 (by have := HL0.out; omega)
                        replace p128 := eq_true p128
                        replace q128 := eq_true q128
                        go_wp2
                        go_roundg k11_
                        case measure => have hHK4__ := HK4_.out; have hHK10__ := HK10_.out; omega
                        case rel => exact ⟨(!(rdOf false l0 x16_9)), (wrap64 (x16_9 + 1)), (by first | rfl | (simp; done) | (simp [*]; done)), (by first | rfl | (simp; done) | (simp [*]; done)), H', ⟨by have hHK4__ := HK4_.out; have hHK10__ := HK10_.out; omega⟩, HM⟩
                      · rw [if_neg c16_] at H
                        have c16_b0 : decide (x16_9 < 64) = false := decide_eq_false c16_
                        clear c16_
                        exact absurd H (by simp)
                    · rw [if_neg c15_] at H
                      have c15_b0 : decide (0 ≤ x16_9) = false := decide_eq_false c15_
                      clear c15_
                      exact absurd H (by simp)
                  · rw [if_neg c14_] at H
                    have c14_b0 : ((Go.bits .and .i64 x16_9 x10_3) == x16_9) = false := beq_eq_false_iff_ne.mpr c14_
                    have c14_b1 : ((Go.bits .and .i64 x16_9 x10_3) != x16_9) = true := bne_iff_ne.mpr c14_
                    clear c14_
                    have H' := Aside0.mk H
                    clear H
                    go_wp2
                    go_roundg k11_
                    case measure => have hHK4__ := HK4_.out; have hHK10__ := HK10_.out; omega
                    case rel => exact ⟨(!false), (wrap64 (x16_9 + 1)), (by first | rfl | (simp; done) | (simp [*]; done)), (by first | rfl | (simp; done) | (simp [*]; done)), H', ⟨by have hHK4__ := HK4_.out; have hHK10__ := HK10_.out; omega⟩, HM⟩
                · replace c13_ := Bool.eq_false_iff.mpr c13_
                  subst c13_
                  have H1 : (impl_leastOf.l1 k11_ x10_3 false l0 x10_3 x10_3 (wrap64 (x16_9 + 1)) m2_3 l0) = some r := by rw [if_neg (show ¬ (false = true) by decide)] at H; exact H
                  clear H
                  have H := H1
                  clear H1
                  have H' := Aside0.mk H
                  clear H
                  go_wp2
                  go_roundg k11_
                  case measure => have hHK4__ := HK4_.out; have hHK10__ := HK10_.out; omega
                  case rel => exact ⟨(false), (wrap64 (x16_9 + 1)), (by first | rfl | (simp; done) | (simp [*]; done)), (by first | rfl | (simp; done) | (simp [*]; done)), H', ⟨by have hHK4__ := HK4_.out; have hHK10__ := HK10_.out; omega⟩, HM⟩
              · rw [if_neg c12_] at H
                have c12_b0 : decide (x16_9 < x10_3) = false := decide_eq_false c12_
                clear c12_
                by_cases c17_ : x6_9 = true
                · subst c17_
                  have H1 : (if m2_3.length < 17592186044416 then (impl_leastOf.l0 k11_ l0 (wrap64 (x10_3 + 1)) (m2_3 ++ [x10_3]) l0) else (none)) = some r := by rw [if_pos rfl] at H; exact H
                  clear H
                  have H := H1
                  clear H1
                  by_cases c18_ : m2_3.length < 17592186044416
                  · rw [if_pos c18_] at H
                    have LMc18_ := Aside0.mk c18_
                    clear c18_
                    obtain ⟨y129, hy129⟩ : ∃ y_, y_ = (m2_3 ++ [x10_3]) := ⟨_, rfl⟩
                    replace H : (impl_leastOf.l0 k11_ l0 (wrap64 (x10_3 + 1)) y129 l0) = some r := by first | (rw [hy129]; with_reducible exact H) | (have H2_ := (Option.bind_some _ _).symm.trans H; rw [hy129]; with_reducible exact H2_) | (have H2_ := (Option.bind_some _ _).symm.trans H; with_reducible exact H2_) | with_reducible exact H | (rw [hy129]; exact H) | exact H
                    have Ny129 := Aside0.mk hy129
                    clear hy129
                    have H' := Aside0.mk H
                    clear H
                    go_wp2_with (first | ((with_reducible refine gate_builtin (b := .append) (xs := #[.tmp 35, .tmp 37]) rfl ?_); at_builtin; refine Kd.R_append (Kd.int .i64) (w0 := w) w.heap.size rfl (.tmp 35) (.tmp 37) 22 3 (.int .i64 0) 8 rfl Try.underlying22 info3 rfl (by decide) (by omega) (.slice Am2_3 m2_3.length cm2_3) m2_3 x10_3 [.int .i64 x10_3] (fun _ => True) (fun _ => False) rfl rfl ?aP (fun _ hk => hk.elim) ?aF ?aO ?aB ?aS ?aL ?_; (case aP => exact rfl); (case aB => exact HM.out.below); (case aF => exact (fun _ _ => trivial)); (case aO => exact (HM.out.R 0 rfl)); (case aS => exact HM.out.size); (case aL => have := LMc18_.out; omega); intro vv_ w19_ ho hb hg hat; rw [← Ny129.out] at ho; have n_ := Aside0.mk (HM.out.grow 0 rfl ho hb hg hat); clear HM; have HM := n_; clear n_; obtain ⟨Ao2_y129, co2_y129, ev_⟩ := Kd.R_slice ho; subst ev_; clear ho hb hg hat; have n_ : Aside0 (MS w w19_ [.row 3 (.slice Ao2_y129 y129.length co2_y129) (encs (Value.int .i64) y129), .box gb1 46 (bcs l0)]) := ⟨HM.out⟩; clear HM; have HM := n_; clear n_))
                    go_roundg k11_
                    case measure => have hHK4__ := HK4_.out; have hHK10__ := HK10_.out; omega
                    case rel => exact ⟨(wrap64 (x10_3 + 1)), (Ao2_y129), (co2_y129), (y129), (by first | rfl | (simp; done) | (simp [*]; done)), (by first | rfl | (simp; done) | (simp [*]; done)), H', ⟨by have hHK4__ := HK4_.out; have hHK10__ := HK10_.out; omega⟩, HM⟩
                  · rw [if_neg c18_] at H
                    clear c18_
                    exact absurd H (by simp)
                · replace c17_ := Bool.eq_false_iff.mpr c17_
                  subst c17_
                  have H1 : (impl_leastOf.l0 k11_ l0 (wrap64 (x10_3 + 1)) m2_3 l0) = some r := by rw [if_neg (show ¬ (false = true) by decide)] at H; exact H
                  clear H
                  have H := H1
                  clear H1
                  have H' := Aside0.mk H
                  clear H
                  go_wp2
                  go_roundg k11_
                  case measure => have hHK4__ := HK4_.out; have hHK10__ := HK10_.out; omega
                  case rel => exact ⟨(wrap64 (x10_3 + 1)), (Am2_3), (cm2_3), (m2_3), (by first | rfl | (simp; done) | (simp [*]; done)), (by first | rfl | (simp; done) | (simp [*]; done)), H', ⟨by have hHK4__ := HK4_.out; have hHK10__ := HK10_.out; omega⟩, HM⟩
        · rw [if_neg c7_] at H
          have c7_b0 : decide (0 ≤ x10_3) = false := decide_eq_false c7_
          clear c7_
          exact absurd H (by simp)
      · rw [if_neg c6_] at H
        have c6_b0 : decide (x10_3 < 64) = false := decide_eq_false c6_
        clear c6_
        obtain rfl := Option.some.inj H
        go_wp2
        go_ret
        exact ⟨_, by first | rfl | (simp; done) | (simp [*]; done), HM.out.R 0 rfl, HM.out.below⟩

/-! ### impl_familyOf: function 41 -/
def impl_familyOf.f (k : Nat) (g0 : Int → Option Bool) : Option (List Int) := (impl_tableOf.f k g0).bind fun t130 => ((impl_leastOf.f k t130).bind fun t131 => (some t131))
set_option maxHeartbeats 8000000 in
set_option maxRecDepth 100000 in
theorem impl_familyOf.calls (k : Nat) (F0 : Value) (g0 : Int → Option Bool) (r : List Int) (w : World) (hf0 : FnB Try.prog w F0 g0) (h : impl_familyOf.f k g0 = some r) :
    Calls Try.prog 41 #[F0] w fun e w' => ∃ v0_ : Value, e = .returned (.agg #[v0_]) ∧ Kd.R (Kd.int .i64) 3 w' w.heap.size (fun _ => True) v0_ r ∧ Below w.heap.size w w' := by
  have HF0 := Aside0.mk hf0
  clear hf0
  have hu24 := Try.underlying24
  have HM := Aside0.mk (MS.start w)
  have H : ((impl_tableOf.f k g0).bind fun t130 => ((impl_leastOf.f k t130).bind fun t131 => (some t131))) = some r := h
  clear h
  replace H := Option.bind_eq_some_iff.mp H
  obtain ⟨t130, A1_0, H⟩ := H
  replace H : ((impl_leastOf.f k t130).bind fun t131 => (some t131)) = some r := H
  have A1_ := Aside0.mk A1_0
  clear A1_0
  replace H := Option.bind_eq_some_iff.mp H
  obtain ⟨t131, A2_0, H⟩ := H
  replace H : (some t131) = some r := H
  have A2_ := Aside0.mk A2_0
  clear A2_0
  obtain rfl := Option.some.inj H
  go_enter Try.func41, Try.ntmps41
  go_wp2_with (first | ((with_reducible refine gate_dst (N := 2) rfl ?_); refine box_event ?hg (N := 2) ?hd (cs := #[.slice none 0 0]) (t := 24) ?hr ?_; (case hd => rfl); (case hg => rfl); (case hr => first | (go_simp; done) | (go_simp; rfl)); intro gb1 hg w3_ hbox hb; have n_ := Aside0.mk (HM.out.addBox hb hbox hg); clear HM; have HM := n_; clear n_; clear hb hbox hg) | ((with_reducible refine gate_callee (f := 68) rfl ?_); (with_reducible refine gate_dst (N := 4) rfl ?_); refine goesL_ (some 4) rfl rfl Try.func68 (by kernel_rfl) rfl #[F0] rfl (by (try simp only [List.map_toArray, List.map_cons, List.map_nil]); first | done | rfl | (simp only [List.length_drop, List.length_take]; rfl)) ?_; (with_reducible refine (impl_tableOf.calls k _ g0 t130 _ ?sd0 A1_.out).mono ?_); (case sd0 => exact (FnB.below HF0.out HM.out.below)); rintro e_ w4_ ⟨rfl, ho0_, hb⟩; refine ⟨_, rfl, ?_⟩; have HLt130 := Aside0.mk ho0_; have n_ := Aside0.mk (HM.out.step hb); clear HM; have HM := n_; clear n_; clear hb ho0_) | ((with_reducible refine gate_callee (f := 67) rfl ?_); (with_reducible refine gate_dst (N := 5) rfl ?_); refine goesL_ (some 5) rfl rfl Try.func67 (by kernel_rfl) rfl #[.agg (bcs t130)] rfl (by (try simp only [List.map_toArray, List.map_cons, List.map_nil]); first | done | rfl | (simp only [List.length_drop, List.length_take]; rfl)) ?_; (with_reducible refine (impl_leastOf.calls k t130 t131 _ ?sd0 A2_.out).mono ?_); (case sd0 => exact HLt130.out); rintro e_ w5_ ⟨vv0_, rfl, ho0_, hb⟩; refine ⟨_, rfl, ?_⟩; obtain ⟨Ao2_0, co2_0, ev_⟩ := Kd.R_slice ho0_; subst ev_; have n_ := Aside0.mk (HM.out.addR hb ho0_); clear HM; have HM := n_; clear n_; clear hb ho0_; have hcz7_0 : w5_.cell? ⟨gb1, 0, none⟩ = some (.slice none 0 0) := (blk_cell (HM.out.box 1 rfl) 0).trans rfl; have hfz7_0 := blk_frozen (HM.out.box 1 rfl) 0) | ((with_reducible refine gate_store (t := 24) (p := 2) rfl ?_); refine store_event (t := 24) (p := 2) (v := ?vow6_) (w1 := (w5_.setCell ⟨gb1, 0, none⟩ (.slice Ao2_0 t131.length co2_0))) ?hg ?ho ?hn ?hr ?_; (case ho => rfl); (case hg => rfl); (case hn => rfl); (case hr => first | (go_simp; done) | (go_simp; rfl)); intro w6_ hw; have n_ : Aside0 (MS w w6_ [.row 3 (.slice Ao2_0 t131.length co2_0) (encs (Value.int .i64) t131), .box gb1 24 #[.slice Ao2_0 t131.length co2_0]]) := ⟨by rw [hw]; exact HM.out.setBox 1 rfl _ _ rfl⟩; clear HM hw; have HM := n_; clear n_))
  refine bodyPost_ret (results_cell_row rfl _ _ gb1 24 #[.slice Ao2_0 t131.length co2_0] (0, 0) _ rfl (HM.out.box 1 rfl) Try.underlying24 rfl (by kernel_rfl)) rfl ?_
  exact ⟨_, by first | rfl | (simp; done) | (simp [*]; done), HM.out.R 0 rfl, HM.out.below⟩

/-! ### impl_FamilyOf: function 13 -/
def impl_FamilyOf.f (k : Nat) (l0 : List Int) : Option (List Int × Bool) := (slices_ContainsFunc_int_int.f k l0 (fun x_ => impl_FamilyOf_1.f x_)).bind fun t133 => (if t133 = true then (some ([], false)) else ((impl_familyOf.f k (fun x_ => impl_Family_has.f k l0 x_)).bind fun t135 => (some (t135, true))))
set_option maxHeartbeats 8000000 in
set_option maxRecDepth 100000 in
theorem impl_FamilyOf.calls (k : Nat) (A0 : Option Addr) (c0 : Nat) (l0 : List Int) (r1 : List Int) (r2 : Bool) (w : World) (hr0 : Kd.C (Kd.int .i64) w A0 l0.length l0) (hc0 : l0.length ≤ c0) (h : impl_FamilyOf.f k l0 = some (r1, r2)) :
    Calls Try.prog 13 #[.slice A0 l0.length c0] w fun e w' => ∃ v0_ : Value, e = .returned (.tuple #[.agg #[v0_], .bool r2]) ∧ Kd.R (Kd.int .i64) 3 w' w.heap.size (fun _ => True) v0_ r1 ∧ Below w.heap.size w w' := by
  have HR0 := Aside0.mk hr0
  have HC0 := Aside0.mk hc0
  clear hr0 hc0
  have hu24 := Try.underlying24
  have HM := Aside0.mk (MS.start w)
  have H : ((slices_ContainsFunc_int_int.f k l0 (fun x_ => impl_FamilyOf_1.f x_)).bind fun t133 => (if t133 = true then (some ([], false)) else ((impl_familyOf.f k (fun x_ => impl_Family_has.f k l0 x_)).bind fun t135 => (some (t135, true))))) = some (r1, r2) := h
  clear h
  replace H := Option.bind_eq_some_iff.mp H
  obtain ⟨t133, A1_0, H⟩ := H
  replace H : (if t133 = true then (some ([], false)) else ((impl_familyOf.f k (fun x_ => impl_Family_has.f k l0 x_)).bind fun t135 => (some (t135, true)))) = some (r1, r2) := H
  have A1_ := Aside0.mk A1_0
  clear A1_0
  by_cases c2_ : t133 = true
  · subst c2_
    have H1 : (some ([], false)) = some (r1, r2) := by rw [if_pos rfl] at H; exact H
    clear H
    have H := H1
    clear H1
    simp only [Option.some.injEq, Prod.mk.injEq] at H
    obtain ⟨rfl, rfl⟩ := H
    go_enter Try.func13, Try.ntmps13
    go_wp2_with (first | ((with_reducible refine gate_dst (N := 2) rfl ?_); refine box_event ?hg (N := 2) ?hd (cs := #[.slice none 0 0]) (t := 24) ?hr ?_; (case hd => rfl); (case hg => rfl); (case hr => first | (go_simp; done) | (go_simp; rfl)); intro gb1 hg w3_ hbox hb; have n_ := Aside0.mk (HM.out.addBox hb hbox hg); clear HM; have HM := n_; clear n_; clear hb hbox hg; have fv132 := Aside0.mk (show FnB Try.prog w3_ (.func (.func 39) #[] #[]) (fun x_ => impl_FamilyOf_1.f x_) from FnB.mk Try.func39 rfl rfl (fun W_ hW_ x_ r_ hr_ => (show Calls Try.prog 39 #[.int .i64 x_] W_ _ from drawn_calls (impl_FamilyOf_1.calls x_ r_ W_  hr_))))) | ((with_reducible refine gate_callee (f := 38) rfl ?_); (with_reducible refine gate_dst (N := 5) rfl ?_); refine goesL_ (some 5) rfl rfl Try.func38 (by kernel_rfl) rfl #[.slice A0 l0.length c0, .func (.func 39) #[] #[]] rfl (by (try simp only [List.map_toArray, List.map_cons, List.map_nil]); first | done | rfl | (simp only [List.length_drop, List.length_take]; rfl)) ?_; (with_reducible refine (slices_ContainsFunc_int_int.calls k _ _ l0 _ (fun x_ => impl_FamilyOf_1.f x_) true _ ?sd0 ?sd1 ?sd2 A1_.out).mono ?_); (case sd0 => exact (Kd.C_below HR0.out HM.out.below)); (case sd1 => exact HC0.out); (case sd2 => exact fv132.out); rintro e_ w4_ ⟨rfl, hb⟩; refine ⟨_, rfl, ?_⟩; have n_ := Aside0.mk (HM.out.step hb); clear HM; have HM := n_; clear n_; clear hb; have hcz6_0 : w4_.cell? ⟨gb1, 0, none⟩ = some (.slice none 0 0) := (blk_cell (HM.out.box 0 rfl) 0).trans rfl; have hfz6_0 := blk_frozen (HM.out.box 0 rfl) 0) | ((with_reducible refine gate_store (t := 24) (p := 2) rfl ?_); refine store_event (t := 24) (p := 2) (v := ?vow5_) (w1 := (w4_.setCell ⟨gb1, 0, none⟩ (.slice none 0 0))) ?hg ?ho ?hn ?hr ?_; (case ho => rfl); (case hg => rfl); (case hn => rfl); (case hr => first | (go_simp; done) | (go_simp; rfl)); intro w5_ hw; have n_ : Aside0 (MS w w5_ [.box gb1 24 #[.slice none 0 0]]) := ⟨by rw [hw]; exact HM.out.setBox 0 rfl _ _ rfl⟩; clear HM hw; have HM := n_; clear n_))
    refine bodyPost_ret (results_ct rfl _ _ gb1 24 #[.slice none 0 0] (0, 0) _ rfl (HM.out.box 0 rfl) Try.underlying24 rfl (by kernel_rfl)) rfl ?_
    exact ⟨_, by first | rfl | (simp; done) | (simp [*]; done), Kd.R_nil _ _ _ _ _, HM.out.below⟩
  · replace c2_ := Bool.eq_false_iff.mpr c2_
    subst c2_
    have H1 : ((impl_familyOf.f k (fun x_ => impl_Family_has.f k l0 x_)).bind fun t135 => (some (t135, true))) = some (r1, r2) := by rw [if_neg (show ¬ (false = true) by decide)] at H; exact H
    clear H
    have H := H1
    clear H1
    replace H := Option.bind_eq_some_iff.mp H
    obtain ⟨t135, A7_0, H⟩ := H
    replace H : (some (t135, true)) = some (r1, r2) := H
    have A7_ := Aside0.mk A7_0
    clear A7_0
    simp only [Option.some.injEq, Prod.mk.injEq] at H
    obtain ⟨rfl, rfl⟩ := H
    go_enter Try.func13, Try.ntmps13
    go_wp2_with (first | ((with_reducible refine gate_dst (N := 2) rfl ?_); refine box_event ?hg (N := 2) ?hd (cs := #[.slice none 0 0]) (t := 24) ?hr ?_; (case hd => rfl); (case hg => rfl); (case hr => first | (go_simp; done) | (go_simp; rfl)); intro gb1 hg w8_ hbox hb; have n_ := Aside0.mk (HM.out.addBox hb hbox hg); clear HM; have HM := n_; clear n_; clear hb hbox hg; have fv132 := Aside0.mk (show FnB Try.prog w8_ (.func (.func 39) #[] #[]) (fun x_ => impl_FamilyOf_1.f x_) from FnB.mk Try.func39 rfl rfl (fun W_ hW_ x_ r_ hr_ => (show Calls Try.prog 39 #[.int .i64 x_] W_ _ from drawn_calls (impl_FamilyOf_1.calls x_ r_ W_  hr_))))) | ((with_reducible refine gate_callee (f := 38) rfl ?_); (with_reducible refine gate_dst (N := 5) rfl ?_); refine goesL_ (some 5) rfl rfl Try.func38 (by kernel_rfl) rfl #[.slice A0 l0.length c0, .func (.func 39) #[] #[]] rfl (by (try simp only [List.map_toArray, List.map_cons, List.map_nil]); first | done | rfl | (simp only [List.length_drop, List.length_take]; rfl)) ?_; (with_reducible refine (slices_ContainsFunc_int_int.calls k _ _ l0 _ (fun x_ => impl_FamilyOf_1.f x_) false _ ?sd0 ?sd1 ?sd2 A1_.out).mono ?_); (case sd0 => exact (Kd.C_below HR0.out HM.out.below)); (case sd1 => exact HC0.out); (case sd2 => exact fv132.out); rintro e_ w9_ ⟨rfl, hb⟩; refine ⟨_, rfl, ?_⟩; have n_ := Aside0.mk (HM.out.step hb); clear HM; have HM := n_; clear n_; clear hb; have fv134 := Aside0.mk (show FnB Try.prog w9_ (.func (.func 42) #[.agg #[.slice A0 l0.length c0]] #[]) (fun x_ => impl_Family_has.f k l0 x_) from FnB.mk Try.func42 rfl rfl (fun W_ hW_ x_ r_ hr_ => (show Calls Try.prog 42 #[.agg #[.slice A0 l0.length c0], .int .i64 x_] W_ _ from impl_Family_has.calls k _ _ l0 x_ r_ W_ (Kd.C_below HR0.out (below_step HM.out.below hW_)) HC0.out hr_)))) | ((with_reducible refine gate_callee (f := 41) rfl ?_); (with_reducible refine gate_dst (N := 10) rfl ?_); refine goesL_ (some 10) rfl rfl Try.func41 (by kernel_rfl) rfl #[.func (.func 42) #[.agg #[.slice A0 l0.length c0]] #[]] rfl (by (try simp only [List.map_toArray, List.map_cons, List.map_nil]); first | done | rfl | (simp only [List.length_drop, List.length_take]; rfl)) ?_; (with_reducible refine (impl_familyOf.calls k _ (fun x_ => impl_Family_has.f k l0 x_) t135 _ ?sd0 A7_.out).mono ?_); (case sd0 => exact fv134.out); rintro e_ w10_ ⟨vv0_, rfl, ho0_, hb⟩; refine ⟨_, rfl, ?_⟩; obtain ⟨Ao2_0, co2_0, ev_⟩ := Kd.R_slice ho0_; subst ev_; have n_ := Aside0.mk (HM.out.addR hb ho0_); clear HM; have HM := n_; clear n_; clear hb ho0_; have hcz12_0 : w10_.cell? ⟨gb1, 0, none⟩ = some (.slice none 0 0) := (blk_cell (HM.out.box 1 rfl) 0).trans rfl; have hfz12_0 := blk_frozen (HM.out.box 1 rfl) 0) | ((with_reducible refine gate_store (t := 24) (p := 2) rfl ?_); refine store_event (t := 24) (p := 2) (v := ?vow11_) (w1 := (w10_.setCell ⟨gb1, 0, none⟩ (.slice Ao2_0 t135.length co2_0))) ?hg ?ho ?hn ?hr ?_; (case ho => rfl); (case hg => rfl); (case hn => rfl); (case hr => first | (go_simp; done) | (go_simp; rfl)); intro w11_ hw; have n_ : Aside0 (MS w w11_ [.row 3 (.slice Ao2_0 t135.length co2_0) (encs (Value.int .i64) t135), .box gb1 24 #[.slice Ao2_0 t135.length co2_0]]) := ⟨by rw [hw]; exact HM.out.setBox 1 rfl _ _ rfl⟩; clear HM hw; have HM := n_; clear n_))
    refine bodyPost_ret (results_ct rfl _ _ gb1 24 #[.slice Ao2_0 t135.length co2_0] (0, 0) _ rfl (HM.out.box 1 rfl) Try.underlying24 rfl (by kernel_rfl)) rfl ?_
    exact ⟨_, by first | rfl | (simp; done) | (simp [*]; done), HM.out.R 0 rfl, HM.out.below⟩

end Go.Proofs.Ytncdgimmalifjaa.Q
