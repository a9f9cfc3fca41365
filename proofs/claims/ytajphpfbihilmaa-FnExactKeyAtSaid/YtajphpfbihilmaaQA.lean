-- Written by a program of this session's own (wip/wgen.py): what functions of the program compute, and that they do.
import Derived.Below
import Derived.Deep.Draws
import Derived.Deep.AppendLies
import Derived.Maps.AppendAt
import Derived.OwnWalk
import Derived.Laws.BytesArg
import Derived.Laws.MakeOwn
import Derived.Laws.OwnMore
import Derived.Deep.OwnRows
import Derived.Tactics
import Derived.Lib.ConvBytes
import Derived.Laws.Slices
import Derived.WalkKit
import Derived.KernelRfl
import Derived.RowKit3
import Derived.Deep.LoopGhost
import Derived.Deep.QuietTactic
import Derived.BigQuiet
import Derived.WideLaws
import Derived.Deep.DeepCutAuto
import Derived.Deep.CutBlock
import Derived.Deep.RegionHeld3
import Derived.Laws.Rows
import Derived.Lib.AppendStr
import Derived.ArgAppend
import Derived.Laws.IdiomCopy
import Derived.OrdersHeld
import Derived.Laws.BitsLemmas
import Derived.RowKit
import Derived.Test.YtajphpfbihilmaaHM
import Derived.Test.YtajphpfbihilmaaProg
import Derived.Test.YtajphpfbihilmaaK1
import Derived.Test.YtajphpfbihilmaaQI
import Derived.Test.YtajphpfbihilmaaDF
namespace Go.Proofs.Ytajphpfbihilmaa.Q
open Go.RowKit Go.Proofs.YtajphpfbihilmaaW.PrintWords Go.Proofs.YtajphpfbihilmaaW.PrintLast Go.Proofs.YtajphpfbihilmaaW.PrintMore Go.Proofs.YtajphpfbihilmaaM Go.Proofs.Ytajphpfbihilmaa.K
attribute [local go_sem] max2_int min2_int max_two min_two max_three min_three max_four min_four
set_option linter.unusedVariables false
set_option linter.unusedSimpArgs false

/-! ### impl_choices_1: function 60 -/
def impl_choices_1.f (a0 : Int) (a1 : Int) : Option (Bool) := some (a0 == (wrap64 (-a1)))
set_option maxHeartbeats 8000000 in
set_option maxRecDepth 100000 in
theorem impl_choices_1.calls (a0 : Int) (gb1 : Nat) (a1 : Int) (r : Bool) (w : World) (hq1 : w.heap[gb1]? = some (.cells #[.int .i64 a1] 3 (0, 0))) (h : impl_choices_1.f a0 a1 = some r) :
    Calls Try.prog 60 #[.int .i64 a0, .pointer (some ⟨gb1, 0, none⟩)] w fun e w' => e = .returned (.bool r) ∧ Drawn0 w w' := by
  have HQ1 := Aside0.mk hq1
  clear hq1
  have HM := Aside0.mk (MS.start w)
  have HD := Aside0.mk (Drawn0.refl w)
  have H : (some (a0 == (wrap64 (-a1)))) = some r := h
  clear h
  obtain rfl := Option.some.inj H
  have hcz1_0 : w.cell? ⟨gb1, 0, none⟩ = some (.int .i64 a1) := (blk_cell (blk_below HQ1.out HM.out.below) 0).trans rfl
  have hfz1_0 := blk_frozen (blk_below HQ1.out HM.out.below) 0
  go_enter Try.func60, Try.ntmps60
  go_wp2
  go_ret
  exact ⟨by first | rfl | (simp; done) | (simp [*]; done), HD.out⟩

/-! ### impl_choices: function 56 -/
def impl_choices.f (k : Nat) (a0 : Int) (a1 : Int) : Option (List Int) := (impl_letters.f k a0).bind fun t101 => ((slices_DeleteFunc_int_int.f t101 (fun x_ => impl_choices_1.f x_ a1)).bind fun t103 => (some t103))
set_option maxHeartbeats 8000000 in
set_option maxRecDepth 100000 in
theorem impl_choices.calls (k : Nat) (a0 : Int) (a1 : Int) (r : List Int) (w : World)  (h : impl_choices.f k a0 a1 = some r) :
    Calls Try.prog 56 #[.int .i64 a0, .int .i64 a1] w fun e w' => ∃ v0_ : Value, e = .returned (v0_) ∧ Kd.R (Kd.int .i64) 3 w' w.heap.size (fun _ => True) v0_ r ∧ Below w.heap.size w w' := by
  have HM := Aside0.mk (MS.start w)
  have H : ((impl_letters.f k a0).bind fun t101 => ((slices_DeleteFunc_int_int.f t101 (fun x_ => impl_choices_1.f x_ a1)).bind fun t103 => (some t103))) = some r := h
  clear h
  replace H := Option.bind_eq_some_iff.mp H
  obtain ⟨t101, A1_0, H⟩ := H
  replace H : ((slices_DeleteFunc_int_int.f t101 (fun x_ => impl_choices_1.f x_ a1)).bind fun t103 => (some t103)) = some r := H
  have A1_ := Aside0.mk A1_0
  clear A1_0
  replace H := Option.bind_eq_some_iff.mp H
  obtain ⟨t103, A2_0, H⟩ := H
  replace H : (some t103) = some r := H
  have A2_ := Aside0.mk A2_0
  clear A2_0
  obtain rfl := Option.some.inj H
  go_enter Try.func56, Try.ntmps56
  go_wp2_with (first | ((with_reducible refine gate_dst (N := 3) rfl ?_); refine box_event ?hg (N := 3) ?hd (cs := #[.int .i64 a1]) (t := 3) ?hr ?_; (case hd => rfl); (case hg => rfl); (case hr => first | (go_simp; done) | (go_simp; rfl)); intro gb1 hg w3_ hbox hb; have n_ := Aside0.mk (HM.out.addBox hb hbox hg); clear HM; have HM := n_; clear n_; clear hb hbox hg) | ((with_reducible refine gate_callee (f := 59) rfl ?_); (with_reducible refine gate_dst (N := 6) rfl ?_); refine goesL_ (some 6) rfl rfl Try.func59 (by kernel_rfl) rfl #[.int .i64 a0] rfl (by (try simp only [List.map_toArray, List.map_cons, List.map_nil]); first | done | rfl | (simp only [List.length_drop, List.length_take]; rfl)) ?_; (with_reducible refine (impl_letters.calls k a0 t101 _  A1_.out).mono ?_); rintro e_ w4_ ⟨vv0_, rfl, ho0_, hb⟩; refine ⟨_, rfl, ?_⟩; obtain ⟨Ao2_0, co2_0, ev_⟩ := Kd.R_slice ho0_; subst ev_; have n_ := Aside0.mk (HM.out.addR hb ho0_); clear HM; have HM := n_; clear n_; clear hb ho0_; have fv102 := Aside0.mk (show FnB Try.prog w4_ (.func (.func 60) #[] #[.pointer (some ⟨gb1, 0, none⟩)]) (fun x_ => impl_choices_1.f x_ a1) from FnB.mk Try.func60 rfl rfl (fun W_ hW_ x_ r_ hr_ => (show Calls Try.prog 60 #[.int .i64 x_, .pointer (some ⟨gb1, 0, none⟩)] W_ _ from drawn_calls (impl_choices_1.calls x_ _ a1 r_ W_ (blk_below (HM.out.box 1 rfl) hW_) hr_)))); have n_ : Aside0 (MS w w4_ [.row 3 (.slice Ao2_0 t101.length co2_0) (encs (Value.int .i64) t101), .box gb1 3 #[.int .i64 a1]]) := ⟨HM.out.front 0 rfl⟩; clear HM; have HM := n_; clear n_; have fm6_ := Aside0.mk (show FnM Try.prog w [.box gb1 3 #[.int .i64 a1]] (.func (.func 60) #[] #[.pointer (some ⟨gb1, 0, none⟩)]) (fun x_ => impl_choices_1.f x_ a1) from FnM.mk Try.func60 rfl rfl (fun W_ hM_ x_ r_ hr_ => (show Calls Try.prog 60 #[.int .i64 x_, .pointer (some ⟨gb1, 0, none⟩)] W_ _ from drawn_calls (impl_choices_1.calls x_ _ a1 r_ W_ (hM_.box 0 rfl) hr_))))) | ((with_reducible refine gate_callee (f := 58) rfl ?_); (with_reducible refine gate_dst (N := 8) rfl ?_); refine goesL_ (some 8) rfl rfl Try.func58 (by kernel_rfl) rfl #[.slice Ao2_0 t101.length co2_0, .func (.func 60) #[] #[.pointer (some ⟨gb1, 0, none⟩)]] rfl (by (try simp only [List.map_toArray, List.map_cons, List.map_nil]); first | done | rfl | (simp only [List.length_drop, List.length_take]; rfl)) ?_; (with_reducible refine (slices_DeleteFunc_int_int.calls _ _ _ _ t101 _ (fun x_ => impl_choices_1.f x_ a1) t103 _ HM.out fm6_.out A2_.out).mono ?_); rintro e_ w5_ ⟨Ao2_t103, co2_t103, rfl, hm_⟩; refine ⟨_, rfl, ?_⟩; have n_ := Aside0.mk hm_; clear HM hm_; have HM := n_; clear n_))
  go_ret
  exact ⟨_, by first | rfl | (simp; done) | (simp [*]; done), HM.out.R 0 rfl, HM.out.below⟩

end Go.Proofs.Ytajphpfbihilmaa.Q
