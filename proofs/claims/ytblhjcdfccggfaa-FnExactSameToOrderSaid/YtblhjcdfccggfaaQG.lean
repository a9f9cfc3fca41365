-- Written by a program of this session's own (wip/wgen.py): what functions of the program compute, and that they do.
import Derived.Below
import Derived.Deep.Draws
import Derived.Deep.AppendLies
import Derived.Maps.AppendAt
import Derived.OwnWalk
import Derived.Laws.BytesArg
import Derived.Laws.MakeOwn
import Derived.Laws.OwnMore
import Derived.Deep.OwnRows
import Derived.Tactics
import Derived.Lib.ConvBytes
import Derived.Laws.Slices
import Derived.WalkKit
import Derived.KernelRfl
import Derived.RowKit3
import Derived.Deep.LoopGhost
import Derived.Deep.QuietTactic
import Derived.BigQuiet
import Derived.WideLaws
import Derived.Deep.DeepCutAuto
import Derived.Deep.CutBlock
import Derived.Deep.RegionHeld3
import Derived.Laws.Rows
import Derived.Lib.AppendStr
import Derived.ArgAppend
import Derived.Laws.IdiomCopy
import Derived.OrdersHeld
import Derived.Laws.BitsLemmas
import Derived.RowKit
import Derived.Lib.SliceRun
import Derived.Test.YtblhjcdfccggfaaHM
import Derived.Test.YtblhjcdfccggfaaRG
import Derived.Test.YtblhjcdfccggfaaProg
import Derived.Test.YtblhjcdfccggfaaK1
import Derived.Test.YtblhjcdfccggfaaK2
import Derived.Test.YtblhjcdfccggfaaKL1
import Derived.Test.YtblhjcdfccggfaaQI
import Derived.Test.YtblhjcdfccggfaaQ8
namespace Go.Proofs.Ytblhjcdfccggfaa.Q
open Go.RowKit Go.Proofs.YtblhjcdfccggfaaW.PrintWords Go.Proofs.YtblhjcdfccggfaaW.PrintLast Go.Proofs.YtblhjcdfccggfaaW.PrintMore Go.Proofs.YtblhjcdfccggfaaM Go.Proofs.Ytblhjcdfccggfaa.K Go.Proofs.Ytblhjcdfccggfaa.KL
attribute [local go_sem] max2_int min2_int max_two min_two max_three min_three max_four min_four
set_option linter.unusedVariables false
set_option linter.unusedSimpArgs false

/-! ### spec_SameToOrder: function 16 -/
def spec_SameToOrder.f (k : Nat) (l0 : List Int) (l1 : List Int) (a2 : Int) : Option (Bool × Bool) := (spec_l2Word.f k l0).bind fun t101 => (if t101 = true then ((spec_l2Word.f k l1).bind fun t102 => (if t102 = true then ((spec_l1In.f a2 0 3).bind fun t103 => (if t103 = true then ((spec_l8Of.f k l0).bind fun t104 => ((spec_l8Of.f k l1).bind fun t105 => (if a2 < 1 then (if a2 < 2 then (if a2 < 3 then (some (true, true)) else (some ((((t104.drop 42).take 216) == ((t105.drop 42).take 216)), true))) else (if (((t104.drop 6).take 36) == ((t105.drop 6).take 36)) = true then (if a2 < 3 then (some (true, true)) else (some ((((t104.drop 42).take 216) == ((t105.drop 42).take 216)), true))) else (some (false, true)))) else (if ((t104.take 6) == (t105.take 6)) = true then (if a2 < 2 then (if a2 < 3 then (some (true, true)) else (some ((((t104.drop 42).take 216) == ((t105.drop 42).take 216)), true))) else (if (((t104.drop 6).take 36) == ((t105.drop 6).take 36)) = true then (if a2 < 3 then (some (true, true)) else (some ((((t104.drop 42).take 216) == ((t105.drop 42).take 216)), true))) else (some (false, true)))) else (some (false, true)))))) else (some (false, false)))) else (some (false, false)))) else (some (false, false)))
set_option maxHeartbeats 8000000 in
set_option maxRecDepth 100000 in
theorem spec_SameToOrder.calls (k : Nat) (A0 : Option Addr) (c0 : Nat) (l0 : List Int) (A1 : Option Addr) (c1 : Nat) (l1 : List Int) (a2 : Int) (r1 : Bool) (r2 : Bool) (w : World) (hr0 : Kd.C (Kd.int .i64) w A0 l0.length l0) (hc0 : l0.length ≤ c0) (hr1 : Kd.C (Kd.int .i64) w A1 l1.length l1) (hc1 : l1.length ≤ c1) (h : spec_SameToOrder.f k l0 l1 a2 = some (r1, r2)) :
    Calls Try.prog 16 #[.slice A0 l0.length c0, .slice A1 l1.length c1, .int .i64 a2] w fun e w' => e = .returned (.tuple #[.bool r1, .bool r2]) ∧ Below w.heap.size w w' := by
  have HR0 := Aside0.mk hr0
  have HC0 := Aside0.mk hc0
  clear hr0 hc0
  have HR1 := Aside0.mk hr1
  have HC1 := Aside0.mk hc1
  clear hr1 hc1
  have hu41 := Try.underlying41
  have hu42 := Try.underlying42
  have hu43 := Try.underlying43
  have hu45 := Try.underlying45
  have HM := Aside0.mk (MS.start w)
  have H : ((spec_l2Word.f k l0).bind fun t101 => (if t101 = true then ((spec_l2Word.f k l1).bind fun t102 => (if t102 = true then ((spec_l1In.f a2 0 3).bind fun t103 => (if t103 = true then ((spec_l8Of.f k l0).bind fun t104 => ((spec_l8Of.f k l1).bind fun t105 => (if a2 < 1 then (if a2 < 2 then (if a2 < 3 then (some (true, true)) else (some ((((t104.drop 42).take 216) == ((t105.drop 42).take 216)), true))) else (if (((t104.drop 6).take 36) == ((t105.drop 6).take 36)) = true then (if a2 < 3 then (some (true, true)) else (some ((((t104.drop 42).take 216) == ((t105.drop 42).take 216)), true))) else (some (false, true)))) else (if ((t104.take 6) == (t105.take 6)) = true then (if a2 < 2 then (if a2 < 3 then (some (true, true)) else (some ((((t104.drop 42).take 216) == ((t105.drop 42).take 216)), true))) else (if (((t104.drop 6).take 36) == ((t105.drop 6).take 36)) = true then (if a2 < 3 then (some (true, true)) else (some ((((t104.drop 42).take 216) == ((t105.drop 42).take 216)), true))) else (some (false, true)))) else (some (false, true)))))) else (some (false, false)))) else (some (false, false)))) else (some (false, false)))) = some (r1, r2) := h
  clear h
  replace H := Option.bind_eq_some_iff.mp H
  obtain ⟨t101, A1_0, H⟩ := H
  replace H : (if t101 = true then ((spec_l2Word.f k l1).bind fun t102 => (if t102 = true then ((spec_l1In.f a2 0 3).bind fun t103 => (if t103 = true then ((spec_l8Of.f k l0).bind fun t104 => ((spec_l8Of.f k l1).bind fun t105 => (if a2 < 1 then (if a2 < 2 then (if a2 < 3 then (some (true, true)) else (some ((((t104.drop 42).take 216) == ((t105.drop 42).take 216)), true))) else (if (((t104.drop 6).take 36) == ((t105.drop 6).take 36)) = true then (if a2 < 3 then (some (true, true)) else (some ((((t104.drop 42).take 216) == ((t105.drop 42).take 216)), true))) else (some (false, true)))) else (if ((t104.take 6) == (t105.take 6)) = true then (if a2 < 2 then (if a2 < 3 then (some (true, true)) else (some ((((t104.drop 42).take 216) == ((t105.drop 42).take 216)), true))) else (if (((t104.drop 6).take 36) == ((t105.drop 6).take 36)) = true then (if a2 < 3 then (some (true, true)) else (some ((((t104.drop 42).take 216) == ((t105.drop 42).take 216)), true))) else (some (false, true)))) else (some (false, true)))))) else (some (false, false)))) else (some (false, false)))) else (some (false, false))) = some (r1, r2) := H
  have A1_ := Aside0.mk A1_0
  clear A1_0
  have H' := Aside0.mk H
  clear H
  go_enter Try.func16, Try.ntmps16
  go_wp2_with (first | ((with_reducible refine gate_callee (f := 31) rfl ?_); (with_reducible refine gate_dst (N := 11) rfl ?_); refine goesL_ (some 11) rfl rfl Try.func31 (by kernel_rfl) rfl #[.slice A0 l0.length c0] rfl (by (try simp only [List.map_toArray, List.map_cons, List.map_nil]); first | done | rfl | (simp only [List.length_drop, List.length_take]; rfl)) ?_; (with_reducible refine (spec_l2Word.calls k _ _ l0 t101 _ ?sd0 ?sd1 A1_.out).mono ?_); (case sd0 => exact (Kd.C_below HR0.out HM.out.below)); (case sd1 => exact HC0.out); rintro e_ w2_ ⟨rfl, hd_⟩; refine ⟨_, rfl, ?_⟩; have hb := hd_.below; clear hd_; have n_ := Aside0.mk (HM.out.step hb); clear HM; have HM := n_; clear n_; clear hb; refine id ?roundEnd))
  case roundEnd =>
    have H := H'.out
    clear H'
    by_cases c3_ : t101 = true
    · subst c3_
      have H1 : ((spec_l2Word.f k l1).bind fun t102 => (if t102 = true then ((spec_l1In.f a2 0 3).bind fun t103 => (if t103 = true then ((spec_l8Of.f k l0).bind fun t104 => ((spec_l8Of.f k l1).bind fun t105 => (if a2 < 1 then (if a2 < 2 then (if a2 < 3 then (some (true, true)) else (some ((((t104.drop 42).take 216) == ((t105.drop 42).take 216)), true))) else (if (((t104.drop 6).take 36) == ((t105.drop 6).take 36)) = true then (if a2 < 3 then (some (true, true)) else (some ((((t104.drop 42).take 216) == ((t105.drop 42).take 216)), true))) else (some (false, true)))) else (if ((t104.take 6) == (t105.take 6)) = true then (if a2 < 2 then (if a2 < 3 then (some (true, true)) else (some ((((t104.drop 42).take 216) == ((t105.drop 42).take 216)), true))) else (if (((t104.drop 6).take 36) == ((t105.drop 6).take 36)) = true then (if a2 < 3 then (some (true, true)) else (some ((((t104.drop 42).take 216) == ((t105.drop 42).take 216)), true))) else (some (false, true)))) else (some (false, true)))))) else (some (false, false)))) else (some (false, false)))) = some (r1, r2) := by rw [if_pos rfl] at H; exact H
      clear H
      have H := H1
      clear H1
      replace H := Option.bind_eq_some_iff.mp H
      obtain ⟨t102, A4_0, H⟩ := H
      replace H : (if t102 = true then ((spec_l1In.f a2 0 3).bind fun t103 => (if t103 = true then ((spec_l8Of.f k l0).bind fun t104 => ((spec_l8Of.f k l1).bind fun t105 => (if a2 < 1 then (if a2 < 2 then (if a2 < 3 then (some (true, true)) else (some ((((t104.drop 42).take 216) == ((t105.drop 42).take 216)), true))) else (if (((t104.drop 6).take 36) == ((t105.drop 6).take 36)) = true then (if a2 < 3 then (some (true, true)) else (some ((((t104.drop 42).take 216) == ((t105.drop 42).take 216)), true))) else (some (false, true)))) else (if ((t104.take 6) == (t105.take 6)) = true then (if a2 < 2 then (if a2 < 3 then (some (true, true)) else (some ((((t104.drop 42).take 216) == ((t105.drop 42).take 216)), true))) else (if (((t104.drop 6).take 36) == ((t105.drop 6).take 36)) = true then (if a2 < 3 then (some (true, true)) else (some ((((t104.drop 42).take 216) == ((t105.drop 42).take 216)), true))) else (some (false, true)))) else (some (false, true)))))) else (some (false, false)))) else (some (false, false))) = some (r1, r2) := H
      have A4_ := Aside0.mk A4_0
      clear A4_0
      have H' := Aside0.mk H
      clear H
      go_wp2_with (first | (go_at_call 31; (refine calls_of_args (args' := #[.slice A1 l1.length c1]) (by first | done | rfl) ?_); (with_reducible refine (spec_l2Word.calls k _ _ l1 t102 _ ?sd0 ?sd1 A4_.out).mono ?_); (case sd0 => exact (Kd.C_below HR1.out HM.out.below)); (case sd1 => exact HC1.out); rintro e_ w5_ ⟨rfl, hd_⟩; have hb := hd_.below; clear hd_; have n_ := Aside0.mk (HM.out.step hb); clear HM; have HM := n_; clear n_; clear hb; refine id ?roundEnd))
      case roundEnd =>
        have H := H'.out
        clear H'
        by_cases c6_ : t102 = true
        · subst c6_
          have H1 : ((spec_l1In.f a2 0 3).bind fun t103 => (if t103 = true then ((spec_l8Of.f k l0).bind fun t104 => ((spec_l8Of.f k l1).bind fun t105 => (if a2 < 1 then (if a2 < 2 then (if a2 < 3 then (some (true, true)) else (some ((((t104.drop 42).take 216) == ((t105.drop 42).take 216)), true))) else (if (((t104.drop 6).take 36) == ((t105.drop 6).take 36)) = true then (if a2 < 3 then (some (true, true)) else (some ((((t104.drop 42).take 216) == ((t105.drop 42).take 216)), true))) else (some (false, true)))) else (if ((t104.take 6) == (t105.take 6)) = true then (if a2 < 2 then (if a2 < 3 then (some (true, true)) else (some ((((t104.drop 42).take 216) == ((t105.drop 42).take 216)), true))) else (if (((t104.drop 6).take 36) == ((t105.drop 6).take 36)) = true then (if a2 < 3 then (some (true, true)) else (some ((((t104.drop 42).take 216) == ((t105.drop 42).take 216)), true))) else (some (false, true)))) else (some (false, true)))))) else (some (false, false)))) = some (r1, r2) := by rw [if_pos rfl] at H; exact H
          clear H
          have H := H1
          clear H1
          replace H := Option.bind_eq_some_iff.mp H
          obtain ⟨t103, A7_0, H⟩ := H
          replace H : (if t103 = true then ((spec_l8Of.f k l0).bind fun t104 => ((spec_l8Of.f k l1).bind fun t105 => (if a2 < 1 then (if a2 < 2 then (if a2 < 3 then (some (true, true)) else (some ((((t104.drop 42).take 216) == ((t105.drop 42).take 216)), true))) else (if (((t104.drop 6).take 36) == ((t105.drop 6).take 36)) = true then (if a2 < 3 then (some (true, true)) else (some ((((t104.drop 42).take 216) == ((t105.drop 42).take 216)), true))) else (some (false, true)))) else (if ((t104.take 6) == (t105.take 6)) = true then (if a2 < 2 then (if a2 < 3 then (some (true, true)) else (some ((((t104.drop 42).take 216) == ((t105.drop 42).take 216)), true))) else (if (((t104.drop 6).take 36) == ((t105.drop 6).take 36)) = true then (if a2 < 3 then (some (true, true)) else (some ((((t104.drop 42).take 216) == ((t105.drop 42).take 216)), true))) else (some (false, true)))) else (some (false, true)))))) else (some (false, false))) = some (r1, r2) := H
          have A7_ := Aside0.mk A7_0
          clear A7_0
          have H' := Aside0.mk H
          clear H
          go_wp2_with (first | (go_at_call 32; (refine calls_of_args (args' := #[.int .i64 a2, .int .i64 0, .int .i64 3]) (by first | done | rfl) ?_); (with_reducible refine (spec_l1In.calls a2 0 3 t103 _  A7_.out).mono ?_); rintro e_ w8_ ⟨rfl, hd_⟩; have hb := hd_.below; clear hd_; have n_ := Aside0.mk (HM.out.step hb); clear HM; have HM := n_; clear n_; clear hb; refine id ?roundEnd))
          case roundEnd =>
            have H := H'.out
            clear H'
            by_cases c9_ : t103 = true
            · subst c9_
              have H1 : ((spec_l8Of.f k l0).bind fun t104 => ((spec_l8Of.f k l1).bind fun t105 => (if a2 < 1 then (if a2 < 2 then (if a2 < 3 then (some (true, true)) else (some ((((t104.drop 42).take 216) == ((t105.drop 42).take 216)), true))) else (if (((t104.drop 6).take 36) == ((t105.drop 6).take 36)) = true then (if a2 < 3 then (some (true, true)) else (some ((((t104.drop 42).take 216) == ((t105.drop 42).take 216)), true))) else (some (false, true)))) else (if ((t104.take 6) == (t105.take 6)) = true then (if a2 < 2 then (if a2 < 3 then (some (true, true)) else (some ((((t104.drop 42).take 216) == ((t105.drop 42).take 216)), true))) else (if (((t104.drop 6).take 36) == ((t105.drop 6).take 36)) = true then (if a2 < 3 then (some (true, true)) else (some ((((t104.drop 42).take 216) == ((t105.drop 42).take 216)), true))) else (some (false, true)))) else (some (false, true)))))) = some (r1, r2) := by rw [if_pos rfl] at H; exact H
              clear H
              have H := H1
              clear H1
              replace H := Option.bind_eq_some_iff.mp H
              obtain ⟨t104, A10_0, H⟩ := H
              replace H : ((spec_l8Of.f k l1).bind fun t105 => (if a2 < 1 then (if a2 < 2 then (if a2 < 3 then (some (true, true)) else (some ((((t104.drop 42).take 216) == ((t105.drop 42).take 216)), true))) else (if (((t104.drop 6).take 36) == ((t105.drop 6).take 36)) = true then (if a2 < 3 then (some (true, true)) else (some ((((t104.drop 42).take 216) == ((t105.drop 42).take 216)), true))) else (some (false, true)))) else (if ((t104.take 6) == (t105.take 6)) = true then (if a2 < 2 then (if a2 < 3 then (some (true, true)) else (some ((((t104.drop 42).take 216) == ((t105.drop 42).take 216)), true))) else (if (((t104.drop 6).take 36) == ((t105.drop 6).take 36)) = true then (if a2 < 3 then (some (true, true)) else (some ((((t104.drop 42).take 216) == ((t105.drop 42).take 216)), true))) else (some (false, true)))) else (some (false, true))))) = some (r1, r2) := H
              have A10_ := Aside0.mk A10_0
              clear A10_0
              replace H := Option.bind_eq_some_iff.mp H
              obtain ⟨t105, A11_0, H⟩ := H
              replace H : (if a2 < 1 then (if a2 < 2 then (if a2 < 3 then (some (true, true)) else (some ((((t104.drop 42).take 216) == ((t105.drop 42).take 216)), true))) else (if (((t104.drop 6).take 36) == ((t105.drop 6).take 36)) = true then (if a2 < 3 then (some (true, true)) else (some ((((t104.drop 42).take 216) == ((t105.drop 42).take 216)), true))) else (some (false, true)))) else (if ((t104.take 6) == (t105.take 6)) = true then (if a2 < 2 then (if a2 < 3 then (some (true, true)) else (some ((((t104.drop 42).take 216) == ((t105.drop 42).take 216)), true))) else (if (((t104.drop 6).take 36) == ((t105.drop 6).take 36)) = true then (if a2 < 3 then (some (true, true)) else (some ((((t104.drop 42).take 216) == ((t105.drop 42).take 216)), true))) else (some (false, true)))) else (some (false, true)))) = some (r1, r2) := H
              have A11_ := Aside0.mk A11_0
              clear A11_0
              have H' := Aside0.mk H
              clear H
              go_wp2_with (first | ((with_reducible refine gate_callee (f := 30) rfl ?_); (with_reducible refine gate_dst (N := 24) rfl ?_); refine goesL_ (some 24) rfl rfl Try.func30 (by kernel_rfl) rfl #[.slice A0 l0.length c0] rfl (by (try simp only [List.map_toArray, List.map_cons, List.map_nil]); first | done | rfl | (simp only [List.length_drop, List.length_take]; rfl)) ?_; (with_reducible refine (spec_l8Of.calls k _ _ l0 t104 _ ?sd0 ?sd1 A10_.out).mono ?_); (case sd0 => exact (Kd.C_below HR0.out HM.out.below)); (case sd1 => exact HC0.out); rintro e_ w12_ ⟨rfl, ho0_, hb⟩; refine ⟨_, rfl, ?_⟩; have HLt104 := Aside0.mk ho0_; have n_ := Aside0.mk (HM.out.step hb); clear HM; have HM := n_; clear n_; clear hb ho0_) | ((with_reducible refine gate_callee (f := 30) rfl ?_); (with_reducible refine gate_dst (N := 26) rfl ?_); refine goesL_ (some 26) rfl rfl Try.func30 (by kernel_rfl) rfl #[.slice A1 l1.length c1] rfl (by (try simp only [List.map_toArray, List.map_cons, List.map_nil]); first | done | rfl | (simp only [List.length_drop, List.length_take]; rfl)) ?_; (with_reducible refine (spec_l8Of.calls k _ _ l1 t105 _ ?sd0 ?sd1 A11_.out).mono ?_); (case sd0 => exact (Kd.C_below HR1.out HM.out.below)); (case sd1 => exact HC1.out); rintro e_ w13_ ⟨rfl, ho0_, hb⟩; refine ⟨_, rfl, ?_⟩; have HLt105 := Aside0.mk ho0_; have n_ := Aside0.mk (HM.out.step hb); clear HM; have HM := n_; clear n_; clear hb ho0_) | ((with_reducible refine gate_dst (N := 8) rfl ?_); refine box_event ?hg (N := 8) ?hd (cs := (ics (List.replicate 258 0))) (t := 45) ?hr ?_; (case hd => rfl); (case hg => rfl); (case hr => first | (go_simp; done) | (go_simp; rfl)); intro gb1 hg w14_ hbox hb; have n_ := Aside0.mk (HM.out.addBox hb hbox hg); clear HM; have HM := n_; clear n_; clear hb hbox hg) | ((with_reducible refine gate_dst (N := 9) rfl ?_); refine box_event ?hg (N := 9) ?hd (cs := (ics (List.replicate 258 0))) (t := 45) ?hr ?_; (case hd => rfl); (case hg => rfl); (case hr => first | (go_simp; done) | (go_simp; rfl)); intro gb2 hg w15_ hbox hb; have n_ := Aside0.mk (HM.out.addBox hb hbox hg); clear HM; have HM := n_; clear n_; clear hb hbox hg) | ((with_reducible refine gate_store (t := 45) (p := 8) rfl ?_); refine wpList_store_row rfl _ _ _ rfl gb1 (ics t104) rfl rfl 45 (ics (List.replicate 258 0)) (HM.out.box 1 rfl) (by rw [ics_size, HLt104.out]; kernel_rfl) ((ics_size _).trans (((List.length_replicate)).trans ((show _ = 258 from HLt104.out).symm.trans (ics_size _).symm))) (ics_one _) ?_; generalize hw : World.setRow _ _ _ = w16_; have n_ : Aside0 (MS w w16_ [.box gb2 45 (ics (List.replicate 258 0)), .box gb1 45 (ics t104)]) := ⟨by rw [← hw]; exact HM.out.setRow 1 rfl _⟩; clear HM hw; have HM := n_; clear n_) | ((with_reducible refine gate_store (t := 45) (p := 9) rfl ?_); refine wpList_store_row rfl _ _ _ rfl gb2 (ics t105) rfl rfl 45 (ics (List.replicate 258 0)) (HM.out.box 0 rfl) (by rw [ics_size, HLt105.out]; kernel_rfl) ((ics_size _).trans (((List.length_replicate)).trans ((show _ = 258 from HLt105.out).symm.trans (ics_size _).symm))) (ics_one _) ?_; generalize hw : World.setRow _ _ _ = w17_; have n_ : Aside0 (MS w w17_ [.box gb2 45 (ics t105), .box gb1 45 (ics t104)]) := ⟨by rw [← hw]; exact HM.out.setRow 0 rfl _⟩; clear HM hw; have HM := n_; clear n_; refine id ?roundEnd))
              case roundEnd =>
                have H := H'.out
                clear H'
                by_cases c18_ : a2 < 1
                · rw [if_pos c18_] at H
                  have KNc18_ := Aside0.mk c18_
                  have c18_b0 : decide (a2 < 1) = true := decide_eq_true c18_
                  clear c18_
                  by_cases c19_ : a2 < 2
                  · rw [if_pos c19_] at H
                    have KNc19_ := Aside0.mk c19_
                    have c19_b0 : decide (a2 < 2) = true := decide_eq_true c19_
                    clear c19_
                    by_cases c20_ : a2 < 3
                    · rw [if_pos c20_] at H
                      have KNc20_ := Aside0.mk c20_
                      have c20_b0 : decide (a2 < 3) = true := decide_eq_true c20_
                      clear c20_
                      simp only [Option.some.injEq, Prod.mk.injEq] at H
                      obtain ⟨rfl, rfl⟩ := H
                      go_wp2
                      go_ret2
                      exact ⟨by first | rfl | (simp; done) | (simp only [i64_w]; done) | (simp [i64_w]; done) | (simp [*]; done), HM.out.below⟩
                    · rw [if_neg c20_] at H
                      have KNc20_ := Aside0.mk c20_
                      have c20_b0 : decide (a2 < 3) = false := decide_eq_false c20_
                      clear c20_
                      simp only [Option.some.injEq, Prod.mk.injEq] at H
                      obtain ⟨rfl, rfl⟩ := H
                      go_wp2_with (first | (refine unguard (by (refine wanted_on (t := 50) rfl rfl rfl ?_); first | rfl | (simp [*]; done)) ?_; dsimp only; (with_reducible refine gate_dst (N := 52) rfl ?_); refine wpList_load_part (g := gb1) (off := 42) (m := 216) (t := 45) (l := t104) (fr := (0, 0)) rfl rfl rfl (HM.out.box 1 rfl) (by kernel_rfl) (by kernel_rfl) (by have h_ : t104.length = 258 := HLt104.out; rw [h_]; decide) ?_) | (refine unguard (by (refine wanted_on (t := 50) rfl rfl rfl ?_); first | rfl | (simp [*]; done)) ?_; dsimp only; (with_reducible refine gate_dst (N := 54) rfl ?_); refine wpList_load_part (g := gb2) (off := 42) (m := 216) (t := 45) (l := t105) (fr := (0, 0)) rfl rfl rfl (HM.out.box 0 rfl) (by kernel_rfl) (by kernel_rfl) (by have h_ : t105.length = 258 := HLt105.out; rw [h_]; decide) ?_) | (refine unguard (by (refine wanted_on (t := 50) rfl rfl rfl ?_); first | rfl | (simp [*]; done)) ?_; dsimp only; (with_reducible refine gate_dst (N := 55) rfl ?_); refine eqlN (t := 43) (m := 216) rfl rfl rfl rfl (by kernel_rfl) (flat_step Try.underlying43 (by kernel_rfl) (by kernel_rfl) (by kernel_rfl) (flat_step Try.underlying42 (by kernel_rfl) (by kernel_rfl) (by kernel_rfl) (flat_base Try.underlying41 (by kernel_rfl) Try.underlying3 (by kernel_rfl) (by kernel_rfl)))) (by decide) (show ((t104.drop 42).take 216).length = 216 from by have h_ : t104.length = 258 := HLt104.out; rw [List.length_take, List.length_drop, h_]; rfl) (show ((t105.drop 42).take 216).length = 216 from by have h_ : t105.length = 258 := HLt105.out; rw [List.length_take, List.length_drop, h_]; rfl) ?_))
                      go_ret2
                      exact ⟨by first | rfl | (simp; done) | (simp only [i64_w]; done) | (simp [i64_w]; done) | (simp [*]; done), HM.out.below⟩
                  · rw [if_neg c19_] at H
                    have KNc19_ := Aside0.mk c19_
                    have c19_b0 : decide (a2 < 2) = false := decide_eq_false c19_
                    clear c19_
                    have H' := Aside0.mk H
                    clear H
                    go_wp2_with (first | (refine unguard (by (refine wanted_on (t := 39) rfl rfl rfl ?_); first | rfl | (simp [*]; done)) ?_; dsimp only; (with_reducible refine gate_dst (N := 41) rfl ?_); refine wpList_load_part (g := gb1) (off := 6) (m := 36) (t := 45) (l := t104) (fr := (0, 0)) rfl rfl rfl (HM.out.box 1 rfl) (by kernel_rfl) (by kernel_rfl) (by have h_ : t104.length = 258 := HLt104.out; rw [h_]; decide) ?_) | (refine unguard (by (refine wanted_on (t := 39) rfl rfl rfl ?_); first | rfl | (simp [*]; done)) ?_; dsimp only; (with_reducible refine gate_dst (N := 43) rfl ?_); refine wpList_load_part (g := gb2) (off := 6) (m := 36) (t := 45) (l := t105) (fr := (0, 0)) rfl rfl rfl (HM.out.box 0 rfl) (by kernel_rfl) (by kernel_rfl) (by have h_ : t105.length = 258 := HLt105.out; rw [h_]; decide) ?_) | (refine unguard (by (refine wanted_on (t := 39) rfl rfl rfl ?_); first | rfl | (simp [*]; done)) ?_; dsimp only; (with_reducible refine gate_dst (N := 44) rfl ?_); refine eqlN (t := 42) (m := 36) rfl rfl rfl rfl (by kernel_rfl) (flat_step Try.underlying42 (by kernel_rfl) (by kernel_rfl) (by kernel_rfl) (flat_base Try.underlying41 (by kernel_rfl) Try.underlying3 (by kernel_rfl) (by kernel_rfl))) (by decide) (show ((t104.drop 6).take 36).length = 36 from by have h_ : t104.length = 258 := HLt104.out; rw [List.length_take, List.length_drop, h_]; rfl) (show ((t105.drop 6).take 36).length = 36 from by have h_ : t105.length = 258 := HLt105.out; rw [List.length_take, List.length_drop, h_]; rfl) ?_; refine id ?roundEnd))
                    case roundEnd =>
                      have H := H'.out
                      clear H'
                      by_cases c21_ : (((t104.drop 6).take 36) == ((t105.drop 6).take 36)) = true
                      · rw [if_pos c21_] at H
                        have c21_b0 : (((t104.drop 6).take 36) == ((t105.drop 6).take 36)) = true := c21_
                        clear c21_
                        by_cases c22_ : a2 < 3
                        · rw [if_pos c22_] at H
                          have KNc22_ := Aside0.mk c22_
                          have c22_b0 : decide (a2 < 3) = true := decide_eq_true c22_
                          clear c22_
                          simp only [Option.some.injEq, Prod.mk.injEq] at H
                          obtain ⟨rfl, rfl⟩ := H
                          go_wp2
                          go_ret2
                          exact ⟨by first | rfl | (simp; done) | (simp only [i64_w]; done) | (simp [i64_w]; done) | (simp [*]; done), HM.out.below⟩
                        · rw [if_neg c22_] at H
                          have KNc22_ := Aside0.mk c22_
                          have c22_b0 : decide (a2 < 3) = false := decide_eq_false c22_
                          clear c22_
                          simp only [Option.some.injEq, Prod.mk.injEq] at H
                          obtain ⟨rfl, rfl⟩ := H
                          go_wp2_with (first | (refine unguard (by (refine wanted_on (t := 50) rfl rfl rfl ?_); first | rfl | (simp [*]; done)) ?_; dsimp only; (with_reducible refine gate_dst (N := 52) rfl ?_); refine wpList_load_part (g := gb1) (off := 42) (m := 216) (t := 45) (l := t104) (fr := (0, 0)) rfl rfl rfl (HM.out.box 1 rfl) (by kernel_rfl) (by kernel_rfl) (by have h_ : t104.length = 258 := HLt104.out; rw [h_]; decide) ?_) | (refine unguard (by (refine wanted_on (t := 50) rfl rfl rfl ?_); first | rfl | (simp [*]; done)) ?_; dsimp only; (with_reducible refine gate_dst (N := 54) rfl ?_); refine wpList_load_part (g := gb2) (off := 42) (m := 216) (t := 45) (l := t105) (fr := (0, 0)) rfl rfl rfl (HM.out.box 0 rfl) (by kernel_rfl) (by kernel_rfl) (by have h_ : t105.length = 258 := HLt105.out; rw [h_]; decide) ?_) | (refine unguard (by (refine wanted_on (t := 50) rfl rfl rfl ?_); first | rfl | (simp [*]; done)) ?_; dsimp only; (with_reducible refine gate_dst (N := 55) rfl ?_); refine eqlN (t := 43) (m := 216) rfl rfl rfl rfl (by kernel_rfl) (flat_step Try.underlying43 (by kernel_rfl) (by kernel_rfl) (by kernel_rfl) (flat_step Try.underlying42 (by kernel_rfl) (by kernel_rfl) (by kernel_rfl) (flat_base Try.underlying41 (by kernel_rfl) Try.underlying3 (by kernel_rfl) (by kernel_rfl)))) (by decide) (show ((t104.drop 42).take 216).length = 216 from by have h_ : t104.length = 258 := HLt104.out; rw [List.length_take, List.length_drop, h_]; rfl) (show ((t105.drop 42).take 216).length = 216 from by have h_ : t105.length = 258 := HLt105.out; rw [List.length_take, List.length_drop, h_]; rfl) ?_))
                          go_ret2
                          exact ⟨by first | rfl | (simp; done) | (simp only [i64_w]; done) | (simp [i64_w]; done) | (simp [*]; done), HM.out.below⟩
                      · rw [if_neg c21_] at H
                        have c21_b0 : (((t104.drop 6).take 36) == ((t105.drop 6).take 36)) = false := by simpa using c21_
                        clear c21_
                        simp only [Option.some.injEq, Prod.mk.injEq] at H
                        obtain ⟨rfl, rfl⟩ := H
                        go_wp2
                        go_ret2
                        exact ⟨by first | rfl | (simp; done) | (simp only [i64_w]; done) | (simp [i64_w]; done) | (simp [*]; done), HM.out.below⟩
                · rw [if_neg c18_] at H
                  have KNc18_ := Aside0.mk c18_
                  have c18_b0 : decide (a2 < 1) = false := decide_eq_false c18_
                  clear c18_
                  have H' := Aside0.mk H
                  clear H
                  go_wp2_with (first | (refine unguard (by (refine wanted_on (t := 29) rfl rfl rfl ?_); first | rfl | (simp [*]; done)) ?_; dsimp only; (with_reducible refine gate_dst (N := 31) rfl ?_); refine wpList_load_part (g := gb1) (off := 0) (m := 6) (t := 45) (l := t104) (fr := (0, 0)) rfl rfl rfl (HM.out.box 1 rfl) (by kernel_rfl) (by kernel_rfl) (by have h_ : t104.length = 258 := HLt104.out; rw [h_]; decide) ?_) | (refine unguard (by (refine wanted_on (t := 29) rfl rfl rfl ?_); first | rfl | (simp [*]; done)) ?_; dsimp only; (with_reducible refine gate_dst (N := 33) rfl ?_); refine wpList_load_part (g := gb2) (off := 0) (m := 6) (t := 45) (l := t105) (fr := (0, 0)) rfl rfl rfl (HM.out.box 0 rfl) (by kernel_rfl) (by kernel_rfl) (by have h_ : t105.length = 258 := HLt105.out; rw [h_]; decide) ?_) | (refine unguard (by (refine wanted_on (t := 29) rfl rfl rfl ?_); first | rfl | (simp [*]; done)) ?_; dsimp only; (with_reducible refine gate_dst (N := 34) rfl ?_); refine eqlI (t := 41) (e := 3) rfl rfl rfl rfl (by kernel_rfl) Try.underlying41 (by kernel_rfl) Try.underlying3 (by kernel_rfl) (by kernel_rfl) (show (t104.take 6).length = 6 from by have h_ : t104.length = 258 := HLt104.out; rw [List.length_take, h_]; rfl) (show (t105.take 6).length = 6 from by have h_ : t105.length = 258 := HLt105.out; rw [List.length_take, h_]; rfl) ?_; refine id ?roundEnd))
                  case roundEnd =>
                    have H := H'.out
                    clear H'
                    by_cases c23_ : ((t104.take 6) == (t105.take 6)) = true
                    · rw [if_pos c23_] at H
                      have c23_b0 : ((t104.take 6) == (t105.take 6)) = true := c23_
                      clear c23_
                      by_cases c24_ : a2 < 2
                      · rw [if_pos c24_] at H
                        have KNc24_ := Aside0.mk c24_
                        have c24_b0 : decide (a2 < 2) = true := decide_eq_true c24_
                        clear c24_
                        by_cases c25_ : a2 < 3
                        · rw [if_pos c25_] at H
                          have KNc25_ := Aside0.mk c25_
                          have c25_b0 : decide (a2 < 3) = true := decide_eq_true c25_
                          clear c25_
                          simp only [Option.some.injEq, Prod.mk.injEq] at H
                          obtain ⟨rfl, rfl⟩ := H
                          go_wp2
                          go_ret2
                          exact ⟨by first | rfl | (simp; done) | (simp only [i64_w]; done) | (simp [i64_w]; done) | (simp [*]; done), HM.out.below⟩
                        · rw [if_neg c25_] at H
                          have KNc25_ := Aside0.mk c25_
                          have c25_b0 : decide (a2 < 3) = false := decide_eq_false c25_
                          clear c25_
                          simp only [Option.some.injEq, Prod.mk.injEq] at H
                          obtain ⟨rfl, rfl⟩ := H
                          go_wp2_with (first | (refine unguard (by (refine wanted_on (t := 50) rfl rfl rfl ?_); first | rfl | (simp [*]; done)) ?_; dsimp only; (with_reducible refine gate_dst (N := 52) rfl ?_); refine wpList_load_part (g := gb1) (off := 42) (m := 216) (t := 45) (l := t104) (fr := (0, 0)) rfl rfl rfl (HM.out.box 1 rfl) (by kernel_rfl) (by kernel_rfl) (by have h_ : t104.length = 258 := HLt104.out; rw [h_]; decide) ?_) | (refine unguard (by (refine wanted_on (t := 50) rfl rfl rfl ?_); first | rfl | (simp [*]; done)) ?_; dsimp only; (with_reducible refine gate_dst (N := 54) rfl ?_); refine wpList_load_part (g := gb2) (off := 42) (m := 216) (t := 45) (l := t105) (fr := (0, 0)) rfl rfl rfl (HM.out.box 0 rfl) (by kernel_rfl) (by kernel_rfl) (by have h_ : t105.length = 258 := HLt105.out; rw [h_]; decide) ?_) | (refine unguard (by (refine wanted_on (t := 50) rfl rfl rfl ?_); first | rfl | (simp [*]; done)) ?_; dsimp only; (with_reducible refine gate_dst (N := 55) rfl ?_); refine eqlN (t := 43) (m := 216) rfl rfl rfl rfl (by kernel_rfl) (flat_step Try.underlying43 (by kernel_rfl) (by kernel_rfl) (by kernel_rfl) (flat_step Try.underlying42 (by kernel_rfl) (by kernel_rfl) (by kernel_rfl) (flat_base Try.underlying41 (by kernel_rfl) Try.underlying3 (by kernel_rfl) (by kernel_rfl)))) (by decide) (show ((t104.drop 42).take 216).length = 216 from by have h_ : t104.length = 258 := HLt104.out; rw [List.length_take, List.length_drop, h_]; rfl) (show ((t105.drop 42).take 216).length = 216 from by have h_ : t105.length = 258 := HLt105.out; rw [List.length_take, List.length_drop, h_]; rfl) ?_))
                          go_ret2
                          exact ⟨by first | rfl | (simp; done) | (simp only [i64_w]; done) | (simp [i64_w]; done) | (simp [*]; done), HM.out.below⟩
                      · rw [if_neg c24_] at H
                        have KNc24_ := Aside0.mk c24_
                        have c24_b0 : decide (a2 < 2) = false := decide_eq_false c24_
                        clear c24_
                        have H' := Aside0.mk H
                        clear H
                        go_wp2_with (first | (refine unguard (by (refine wanted_on (t := 39) rfl rfl rfl ?_); first | rfl | (simp [*]; done)) ?_; dsimp only; (with_reducible refine gate_dst (N := 41) rfl ?_); refine wpList_load_part (g := gb1) (off := 6) (m := 36) (t := 45) (l := t104) (fr := (0, 0)) rfl rfl rfl (HM.out.box 1 rfl) (by kernel_rfl) (by kernel_rfl) (by have h_ : t104.length = 258 := HLt104.out; rw [h_]; decide) ?_) | (refine unguard (by (refine wanted_on (t := 39) rfl rfl rfl ?_); first | rfl | (simp [*]; done)) ?_; dsimp only; (with_reducible refine gate_dst (N := 43) rfl ?_); refine wpList_load_part (g := gb2) (off := 6) (m := 36) (t := 45) (l := t105) (fr := (0, 0)) rfl rfl rfl (HM.out.box 0 rfl) (by kernel_rfl) (by kernel_rfl) (by have h_ : t105.length = 258 := HLt105.out; rw [h_]; decide) ?_) | (refine unguard (by (refine wanted_on (t := 39) rfl rfl rfl ?_); first | rfl | (simp [*]; done)) ?_; dsimp only; (with_reducible refine gate_dst (N := 44) rfl ?_); refine eqlN (t := 42) (m := 36) rfl rfl rfl rfl (by kernel_rfl) (flat_step Try.underlying42 (by kernel_rfl) (by kernel_rfl) (by kernel_rfl) (flat_base Try.underlying41 (by kernel_rfl) Try.underlying3 (by kernel_rfl) (by kernel_rfl))) (by decide) (show ((t104.drop 6).take 36).length = 36 from by have h_ : t104.length = 258 := HLt104.out; rw [List.length_take, List.length_drop, h_]; rfl) (show ((t105.drop 6).take 36).length = 36 from by have h_ : t105.length = 258 := HLt105.out; rw [List.length_take, List.length_drop, h_]; rfl) ?_; refine id ?roundEnd))
                        case roundEnd =>
                          have H := H'.out
                          clear H'
                          by_cases c26_ : (((t104.drop 6).take 36) == ((t105.drop 6).take 36)) = true
                          · rw [if_pos c26_] at H
                            have c26_b0 : (((t104.drop 6).take 36) == ((t105.drop 6).take 36)) = true := c26_
                            clear c26_
                            by_cases c27_ : a2 < 3
                            · rw [if_pos c27_] at H
                              have KNc27_ := Aside0.mk c27_
                              have c27_b0 : decide (a2 < 3) = true := decide_eq_true c27_
                              clear c27_
                              simp only [Option.some.injEq, Prod.mk.injEq] at H
                              obtain ⟨rfl, rfl⟩ := H
                              go_wp2
                              go_ret2
                              exact ⟨by first | rfl | (simp; done) | (simp only [i64_w]; done) | (simp [i64_w]; done) | (simp [*]; done), HM.out.below⟩
                            · rw [if_neg c27_] at H
                              have KNc27_ := Aside0.mk c27_
                              have c27_b0 : decide (a2 < 3) = false := decide_eq_false c27_
                              clear c27_
                              simp only [Option.some.injEq, Prod.mk.injEq] at H
                              obtain ⟨rfl, rfl⟩ := H
                              go_wp2_with (first | (refine unguard (by (refine wanted_on (t := 50) rfl rfl rfl ?_); first | rfl | (simp [*]; done)) ?_; dsimp only; (with_reducible refine gate_dst (N := 52) rfl ?_); refine wpList_load_part (g := gb1) (off := 42) (m := 216) (t := 45) (l := t104) (fr := (0, 0)) rfl rfl rfl (HM.out.box 1 rfl) (by kernel_rfl) (by kernel_rfl) (by have h_ : t104.length = 258 := HLt104.out; rw [h_]; decide) ?_) | (refine unguard (by (refine wanted_on (t := 50) rfl rfl rfl ?_); first | rfl | (simp [*]; done)) ?_; dsimp only; (with_reducible refine gate_dst (N := 54) rfl ?_); refine wpList_load_part (g := gb2) (off := 42) (m := 216) (t := 45) (l := t105) (fr := (0, 0)) rfl rfl rfl (HM.out.box 0 rfl) (by kernel_rfl) (by kernel_rfl) (by have h_ : t105.length = 258 := HLt105.out; rw [h_]; decide) ?_) | (refine unguard (by (refine wanted_on (t := 50) rfl rfl rfl ?_); first | rfl | (simp [*]; done)) ?_; dsimp only; (with_reducible refine gate_dst (N := 55) rfl ?_); refine eqlN (t := 43) (m := 216) rfl rfl rfl rfl (by kernel_rfl) (flat_step Try.underlying43 (by kernel_rfl) (by kernel_rfl) (by kernel_rfl) (flat_step Try.underlying42 (by kernel_rfl) (by kernel_rfl) (by kernel_rfl) (flat_base Try.underlying41 (by kernel_rfl) Try.underlying3 (by kernel_rfl) (by kernel_rfl)))) (by decide) (show ((t104.drop 42).take 216).length = 216 from by have h_ : t104.length = 258 := HLt104.out; rw [List.length_take, List.length_drop, h_]; rfl) (show ((t105.drop 42).take 216).length = 216 from by have h_ : t105.length = 258 := HLt105.out; rw [List.length_take, List.length_drop, h_]; rfl) ?_))
                              go_ret2
                              exact ⟨by first | rfl | (simp; done) | (simp only [i64_w]; done) | (simp [i64_w]; done) | (simp [*]; done), HM.out.below⟩
                          · rw [if_neg c26_] at H
                            have c26_b0 : (((t104.drop 6).take 36) == ((t105.drop 6).take 36)) = false := by simpa using c26_
                            clear c26_
                            simp only [Option.some.injEq, Prod.mk.injEq] at H
                            obtain ⟨rfl, rfl⟩ := H
                            go_wp2
                            go_ret2
                            exact ⟨by first | rfl | (simp; done) | (simp only [i64_w]; done) | (simp [i64_w]; done) | (simp [*]; done), HM.out.below⟩
                    · rw [if_neg c23_] at H
                      have c23_b0 : ((t104.take 6) == (t105.take 6)) = false := by simpa using c23_
                      clear c23_
                      simp only [Option.some.injEq, Prod.mk.injEq] at H
                      obtain ⟨rfl, rfl⟩ := H
                      go_wp2
                      go_ret2
                      exact ⟨by first | rfl | (simp; done) | (simp only [i64_w]; done) | (simp [i64_w]; done) | (simp [*]; done), HM.out.below⟩
            · replace c9_ := Bool.eq_false_iff.mpr c9_
              subst c9_
              have H1 : (some (false, false)) = some (r1, r2) := by rw [if_neg (show ¬ (false = true) by decide)] at H; exact H
              clear H
              have H := H1
              clear H1
              simp only [Option.some.injEq, Prod.mk.injEq] at H
              obtain ⟨rfl, rfl⟩ := H
              go_wp2
              go_ret2
              exact ⟨by first | rfl | (simp; done) | (simp only [i64_w]; done) | (simp [i64_w]; done) | (simp [*]; done), HM.out.below⟩
        · replace c6_ := Bool.eq_false_iff.mpr c6_
          subst c6_
          have H1 : (some (false, false)) = some (r1, r2) := by rw [if_neg (show ¬ (false = true) by decide)] at H; exact H
          clear H
          have H := H1
          clear H1
          simp only [Option.some.injEq, Prod.mk.injEq] at H
          obtain ⟨rfl, rfl⟩ := H
          go_wp2
          go_ret2
          exact ⟨by first | rfl | (simp; done) | (simp only [i64_w]; done) | (simp [i64_w]; done) | (simp [*]; done), HM.out.below⟩
    · replace c3_ := Bool.eq_false_iff.mpr c3_
      subst c3_
      have H1 : (some (false, false)) = some (r1, r2) := by rw [if_neg (show ¬ (false = true) by decide)] at H; exact H
      clear H
      have H := H1
      clear H1
      simp only [Option.some.injEq, Prod.mk.injEq] at H
      obtain ⟨rfl, rfl⟩ := H
      go_wp2
      go_ret2
      exact ⟨by first | rfl | (simp; done) | (simp only [i64_w]; done) | (simp [i64_w]; done) | (simp [*]; done), HM.out.below⟩

end Go.Proofs.Ytblhjcdfccggfaa.Q
