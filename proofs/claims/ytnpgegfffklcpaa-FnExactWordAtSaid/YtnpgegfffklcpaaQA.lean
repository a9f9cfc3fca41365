-- Written by a program of this session's own (wip/wgen.py): what functions of the program compute, and that they do.
import Derived.Below
import Derived.Deep.Draws
import Derived.Deep.AppendLies
import Derived.Maps.AppendAt
import Derived.OwnWalk
import Derived.Laws.BytesArg
import Derived.Laws.MakeOwn
import Derived.Laws.OwnMore
import Derived.Deep.OwnRows
import Derived.Tactics
import Derived.Lib.ConvBytes
import Derived.Laws.Slices
import Derived.WalkKit
import Derived.KernelRfl
import Derived.RowKit3
import Derived.Deep.LoopGhost
import Derived.Deep.QuietTactic
import Derived.BigQuiet
import Derived.WideLaws
import Derived.Deep.DeepCutAuto
import Derived.Deep.CutBlock
import Derived.Deep.RegionHeld3
import Derived.Laws.Rows
import Derived.Lib.AppendStr
import Derived.ArgAppend
import Derived.Laws.IdiomCopy
import Derived.OrdersHeld
import Derived.Laws.BitsLemmas
import Derived.RowKit
import Derived.Test.YtnpgegfffklcpaaHM
import Derived.Test.YtnpgegfffklcpaaRG
import Derived.Test.YtnpgegfffklcpaaProg
import Derived.Test.YtnpgegfffklcpaaK1
import Derived.Test.YtnpgegfffklcpaaQI
import Derived.Test.YtnpgegfffklcpaaCN
import Derived.Test.YtnpgegfffklcpaaDF
namespace Go.Proofs.Ytnpgegfffklcpaa.Q
open Go.RowKit Go.Proofs.YtnpgegfffklcpaaW.PrintWords Go.Proofs.YtnpgegfffklcpaaW.PrintLast Go.Proofs.YtnpgegfffklcpaaW.PrintMore Go.Proofs.YtnpgegfffklcpaaM Go.Proofs.Ytnpgegfffklcpaa.K
attribute [local go_sem] max2_int min2_int max_two min_two max_three min_three max_four min_four
set_option linter.unusedVariables false
set_option linter.unusedSimpArgs false

/-! ### impl_choices_1: function 76 -/
def impl_choices_1.f (a0 : Int) (a1 : Int) : Option (Bool) := some (a0 == (wrap64 (-a1)))
set_option maxHeartbeats 8000000 in
set_option maxRecDepth 100000 in
theorem impl_choices_1.calls (a0 : Int) (gb1 : Nat) (a1 : Int) (r : Bool) (w : World) (hq1 : w.heap[gb1]? = some (.cells #[.int .i64 a1] 3 (0, 0))) (h : impl_choices_1.f a0 a1 = some r) :
    Calls Try.prog 76 #[.int .i64 a0, .pointer (some ⟨gb1, 0, none⟩)] w fun e w' => e = .returned (.bool r) ∧ Drawn0 w w' := by
  have HQ1 := Aside0.mk hq1
  clear hq1
  have HM := Aside0.mk (MS.start w)
  have HD := Aside0.mk (Drawn0.refl w)
  have H : (some (a0 == (wrap64 (-a1)))) = some r := h
  clear h
  obtain rfl := Option.some.inj H
  have hcz1_0 : w.cell? ⟨gb1, 0, none⟩ = some (.int .i64 a1) := (blk_cell (blk_below HQ1.out HM.out.below) 0).trans rfl
  have hfz1_0 := blk_frozen (blk_below HQ1.out HM.out.below) 0
  go_enter Try.func76, Try.ntmps76
  go_wp2
  go_ret
  exact ⟨by first | rfl | (simp; done) | (simp [*]; done), HD.out⟩

/-! ### impl_choices: function 47 -/
def impl_choices.f (k : Nat) (a0 : Int) (a1 : Int) : Option (List Int) := (impl_letters.f k a0).bind fun t101 => ((slices_DeleteFunc_int_int.f t101 (fun x_ => impl_choices_1.f x_ a1)).bind fun t103 => (some t103))
set_option maxHeartbeats 8000000 in
set_option maxRecDepth 100000 in
theorem impl_choices.calls (k : Nat) (a0 : Int) (a1 : Int) (r : List Int) (w : World)  (h : impl_choices.f k a0 a1 = some r) :
    Calls Try.prog 47 #[.int .i64 a0, .int .i64 a1] w fun e w' => ∃ v0_ : Value, e = .returned (v0_) ∧ Kd.R (Kd.int .i64) 3 w' w.heap.size (fun _ => True) v0_ r ∧ Below w.heap.size w w' := by
  have HM := Aside0.mk (MS.start w)
  have H : ((impl_letters.f k a0).bind fun t101 => ((slices_DeleteFunc_int_int.f t101 (fun x_ => impl_choices_1.f x_ a1)).bind fun t103 => (some t103))) = some r := h
  clear h
  replace H := Option.bind_eq_some_iff.mp H
  obtain ⟨t101, A1_0, H⟩ := H
  replace H : ((slices_DeleteFunc_int_int.f t101 (fun x_ => impl_choices_1.f x_ a1)).bind fun t103 => (some t103)) = some r := H
  have A1_ := Aside0.mk A1_0
  clear A1_0
  replace H := Option.bind_eq_some_iff.mp H
  obtain ⟨t103, A2_0, H⟩ := H
  replace H : (some t103) = some r := H
  have A2_ := Aside0.mk A2_0
  clear A2_0
  obtain rfl := Option.some.inj H
  go_enter Try.func47, Try.ntmps47
  go_wp2_with (first | ((with_reducible refine gate_dst (N := 3) rfl ?_); refine box_event ?hg (N := 3) ?hd (cs := #[.int .i64 a1]) (t := 3) ?hr ?_; (case hd => rfl); (case hg => rfl); (case hr => first | (go_simp; done) | (go_simp; rfl)); intro gb1 hg w3_ hbox hb; have n_ := Aside0.mk (HM.out.addBox hb hbox hg); clear HM; have HM := n_; clear n_; clear hb hbox hg) | ((with_reducible refine gate_callee (f := 75) rfl ?_); (with_reducible refine gate_dst (N := 6) rfl ?_); refine goesL_ (some 6) rfl rfl Try.func75 (by kernel_rfl) rfl #[.int .i64 a0] rfl (by (try simp only [List.map_toArray, List.map_cons, List.map_nil]); first | done | rfl | (simp only [List.length_drop, List.length_take]; rfl)) ?_; (with_reducible refine (impl_letters.calls k a0 t101 _  A1_.out).mono ?_); rintro e_ w4_ ⟨vv0_, rfl, ho0_, hb⟩; refine ⟨_, rfl, ?_⟩; obtain ⟨Ao2_0, co2_0, ev_⟩ := Kd.R_slice ho0_; subst ev_; have n_ := Aside0.mk (HM.out.addR hb ho0_); clear HM; have HM := n_; clear n_; clear hb ho0_; have fv102 := Aside0.mk (show FnB Try.prog w4_ (.func (.func 76) #[] #[.pointer (some ⟨gb1, 0, none⟩)]) (fun x_ => impl_choices_1.f x_ a1) from FnB.mk Try.func76 rfl rfl (fun W_ hW_ x_ r_ hr_ => (show Calls Try.prog 76 #[.int .i64 x_, .pointer (some ⟨gb1, 0, none⟩)] W_ _ from drawn_calls (impl_choices_1.calls x_ _ a1 r_ W_ (blk_below (HM.out.box 1 rfl) hW_) hr_)))); have n_ : Aside0 (MS w w4_ [.row 3 (.slice Ao2_0 t101.length co2_0) (encs (Value.int .i64) t101), .box gb1 3 #[.int .i64 a1]]) := ⟨HM.out.front 0 rfl⟩; clear HM; have HM := n_; clear n_; have fm6_ := Aside0.mk (show FnM Try.prog w [.box gb1 3 #[.int .i64 a1]] (.func (.func 76) #[] #[.pointer (some ⟨gb1, 0, none⟩)]) (fun x_ => impl_choices_1.f x_ a1) from FnM.mk Try.func76 rfl rfl (fun W_ hM_ x_ r_ hr_ => (show Calls Try.prog 76 #[.int .i64 x_, .pointer (some ⟨gb1, 0, none⟩)] W_ _ from drawn_calls (impl_choices_1.calls x_ _ a1 r_ W_ (hM_.box 0 rfl) hr_))))) | ((with_reducible refine gate_callee (f := 74) rfl ?_); (with_reducible refine gate_dst (N := 8) rfl ?_); refine goesL_ (some 8) rfl rfl Try.func74 (by kernel_rfl) rfl #[.slice Ao2_0 t101.length co2_0, .func (.func 76) #[] #[.pointer (some ⟨gb1, 0, none⟩)]] rfl (by (try simp only [List.map_toArray, List.map_cons, List.map_nil]); first | done | rfl | (simp only [List.length_drop, List.length_take]; rfl)) ?_; (with_reducible refine (slices_DeleteFunc_int_int.calls _ _ _ _ t101 _ (fun x_ => impl_choices_1.f x_ a1) t103 _ HM.out fm6_.out A2_.out).mono ?_); rintro e_ w5_ ⟨Ao2_t103, co2_t103, rfl, hm_⟩; refine ⟨_, rfl, ?_⟩; have n_ := Aside0.mk hm_; clear HM hm_; have HM := n_; clear n_))
  go_ret
  exact ⟨_, by first | rfl | (simp; done) | (simp [*]; done), HM.out.R 0 rfl, HM.out.below⟩

/-! ### impl_isNail: function 37 -/
def impl_isNail.f (a0 : Int) : Option (Bool) := if a0 ≥ 1 then (some (decide (a0 ≤ 6))) else (some false)
set_option maxHeartbeats 8000000 in
set_option maxRecDepth 100000 in
theorem impl_isNail.calls (a0 : Int) (r : Bool) (w : World)  (h : impl_isNail.f a0 = some r) :
    Calls Try.prog 37 #[.int .i64 a0] w fun e w' => e = .returned (.bool r) ∧ Drawn0 w w' := by
  have HM := Aside0.mk (MS.start w)
  have HD := Aside0.mk (Drawn0.refl w)
  have H : (if a0 ≥ 1 then (some (decide (a0 ≤ 6))) else (some false)) = some r := h
  clear h
  by_cases c1_ : a0 ≥ 1
  · rw [if_pos c1_] at H
    have c1_b0 : decide (1 ≤ a0) = true := decide_eq_true c1_
    clear c1_
    obtain rfl := Option.some.inj H
    go_enter Try.func37, Try.ntmps37
    go_wp2
    go_ret
    exact ⟨by first | rfl | (simp; done) | (simp [*]; done), HD.out⟩
  · rw [if_neg c1_] at H
    have c1_b0 : decide (1 ≤ a0) = false := decide_eq_false c1_
    clear c1_
    obtain rfl := Option.some.inj H
    go_enter Try.func37, Try.ntmps37
    go_wp2
    go_ret
    exact ⟨by first | rfl | (simp; done) | (simp [*]; done), HD.out⟩

/-! ### slices_ContainsFunc_int_int: function 71 -/
def slices_ContainsFunc_int_int.f (k : Nat) (l0 : List Int) (g1 : Int → Option Bool) : Option (Bool) := (slices_IndexFunc_int_int.f k l0 g1).bind fun t104 => (some (decide (t104 ≥ 0)))
set_option maxHeartbeats 8000000 in
set_option maxRecDepth 100000 in
theorem slices_ContainsFunc_int_int.calls (k : Nat) (A0 : Option Addr) (c0 : Nat) (l0 : List Int) (F1 : Value) (g1 : Int → Option Bool) (r : Bool) (w : World) (hr0 : Kd.C (Kd.int .i64) w A0 l0.length l0) (hc0 : l0.length ≤ c0) (hf1 : FnB Try.prog w F1 g1) (h : slices_ContainsFunc_int_int.f k l0 g1 = some r) :
    Calls Try.prog 71 #[.slice A0 l0.length c0, F1] w fun e w' => e = .returned (.bool r) ∧ Below w.heap.size w w' := by
  have HR0 := Aside0.mk hr0
  have HC0 := Aside0.mk hc0
  clear hr0 hc0
  have HF1 := Aside0.mk hf1
  clear hf1
  have HM := Aside0.mk (MS.start w)
  have H : ((slices_IndexFunc_int_int.f k l0 g1).bind fun t104 => (some (decide (t104 ≥ 0)))) = some r := h
  clear h
  replace H := Option.bind_eq_some_iff.mp H
  obtain ⟨t104, A1_0, H⟩ := H
  replace H : (some (decide (t104 ≥ 0))) = some r := H
  have A1_ := Aside0.mk A1_0
  clear A1_0
  obtain rfl := Option.some.inj H
  go_enter Try.func71, Try.ntmps71
  go_wp2_with (first | ((with_reducible refine gate_callee (f := 89) rfl ?_); (with_reducible refine gate_dst (N := 7) rfl ?_); refine goesL_ (some 7) rfl rfl Try.func89 (by kernel_rfl) rfl #[.slice A0 l0.length c0, F1] rfl (by (try simp only [List.map_toArray, List.map_cons, List.map_nil]); first | done | rfl | (simp only [List.length_drop, List.length_take]; rfl)) ?_; (with_reducible refine (slices_IndexFunc_int_int.calls k _ _ l0 _ g1 t104 _ ?sd0 ?sd1 ?sd2 A1_.out).mono ?_); (case sd0 => exact (Kd.C_below HR0.out HM.out.below)); (case sd1 => exact HC0.out); (case sd2 => exact (FnB.below HF1.out HM.out.below)); rintro e_ w2_ ⟨rfl, hb⟩; refine ⟨_, rfl, ?_⟩; have n_ := Aside0.mk (HM.out.step hb); clear HM; have HM := n_; clear n_; clear hb))
  go_ret
  exact ⟨by first | rfl | (simp; done) | (simp [*]; done), HM.out.below⟩

/-! ### impl_isLetter: function 88 -/
def impl_isLetter.f (a0 : Int) : Option (Bool) := if a0 = 0 then (some false) else (if a0 ≥ (-6) then (some (decide (a0 ≤ 6))) else (some false))
set_option maxHeartbeats 8000000 in
set_option maxRecDepth 100000 in
theorem impl_isLetter.calls (a0 : Int) (r : Bool) (w : World)  (h : impl_isLetter.f a0 = some r) :
    Calls Try.prog 88 #[.int .i64 a0] w fun e w' => e = .returned (.bool r) ∧ Drawn0 w w' := by
  have HM := Aside0.mk (MS.start w)
  have HD := Aside0.mk (Drawn0.refl w)
  have H : (if a0 = 0 then (some false) else (if a0 ≥ (-6) then (some (decide (a0 ≤ 6))) else (some false))) = some r := h
  clear h
  by_cases c1_ : a0 = 0
  · rw [if_pos c1_] at H
    have c1_b0 : (a0 == 0) = true := beq_iff_eq.mpr c1_
    have c1_b1 : (a0 != 0) = false := bne_eq_false_iff_eq.mpr c1_
    clear c1_
    obtain rfl := Option.some.inj H
    go_enter Try.func88, Try.ntmps88
    go_wp2
    go_ret
    exact ⟨by first | rfl | (simp; done) | (simp [*]; done), HD.out⟩
  · rw [if_neg c1_] at H
    have c1_b0 : (a0 == 0) = false := beq_eq_false_iff_ne.mpr c1_
    have c1_b1 : (a0 != 0) = true := bne_iff_ne.mpr c1_
    clear c1_
    by_cases c2_ : a0 ≥ (-6)
    · rw [if_pos c2_] at H
      have c2_b0 : decide ((-6) ≤ a0) = true := decide_eq_true c2_
      clear c2_
      obtain rfl := Option.some.inj H
      go_enter Try.func88, Try.ntmps88
      go_wp2
      go_ret
      exact ⟨by first | rfl | (simp; done) | (simp [*]; done), HD.out⟩
    · rw [if_neg c2_] at H
      have c2_b0 : decide ((-6) ≤ a0) = false := decide_eq_false c2_
      clear c2_
      obtain rfl := Option.some.inj H
      go_enter Try.func88, Try.ntmps88
      go_wp2
      go_ret
      exact ⟨by first | rfl | (simp; done) | (simp [*]; done), HD.out⟩

/-! ### impl_isWord_1: function 87 -/
def impl_isWord_1.f (a0 : Int) : Option (Bool) := (impl_isLetter.f a0).bind fun t105 => (some (!t105))
set_option maxHeartbeats 8000000 in
set_option maxRecDepth 100000 in
theorem impl_isWord_1.calls (a0 : Int) (r : Bool) (w : World)  (h : impl_isWord_1.f a0 = some r) :
    Calls Try.prog 87 #[.int .i64 a0] w fun e w' => e = .returned (.bool r) ∧ Drawn0 w w' := by
  have HM := Aside0.mk (MS.start w)
  have HD := Aside0.mk (Drawn0.refl w)
  have H : ((impl_isLetter.f a0).bind fun t105 => (some (!t105))) = some r := h
  clear h
  replace H := Option.bind_eq_some_iff.mp H
  obtain ⟨t105, A1_0, H⟩ := H
  replace H : (some (!t105)) = some r := H
  have A1_ := Aside0.mk A1_0
  clear A1_0
  obtain rfl := Option.some.inj H
  go_enter Try.func87, Try.ntmps87
  go_wp2_with (first | ((with_reducible refine gate_callee (f := 88) rfl ?_); (with_reducible refine gate_dst (N := 4) rfl ?_); refine goesL_ (some 4) rfl rfl Try.func88 (by kernel_rfl) rfl #[.int .i64 a0] rfl (by (try simp only [List.map_toArray, List.map_cons, List.map_nil]); first | done | rfl | (simp only [List.length_drop, List.length_take]; rfl)) ?_; (with_reducible refine (impl_isLetter.calls a0 t105 _  A1_.out).mono ?_); rintro e_ w2_ ⟨rfl, hd_⟩; refine ⟨_, rfl, ?_⟩; have hb := hd_.below; have nd_ := Aside0.mk (HD.out.trans hd_); clear HD; have HD := nd_; clear nd_; clear hd_; have n_ := Aside0.mk (HM.out.step hb); clear HM; have HM := n_; clear n_; clear hb))
  go_ret
  exact ⟨by first | rfl | (simp; done) | (simp [*]; done), HD.out⟩

/-! ### impl_isWord: function 69 -/
def impl_isWord.f (k : Nat) (l0 : List Int) : Option (Bool) := if (l0.length : Int) ≤ 64 then ((slices_ContainsFunc_int_int.f k l0 (fun x_ => impl_isWord_1.f x_)).bind fun t107 => (some (!t107))) else (some false)
set_option maxHeartbeats 8000000 in
set_option maxRecDepth 100000 in
theorem impl_isWord.calls (k : Nat) (A0 : Option Addr) (c0 : Nat) (l0 : List Int) (r : Bool) (w : World) (hr0 : Kd.C (Kd.int .i64) w A0 l0.length l0) (hc0 : l0.length ≤ c0) (h : impl_isWord.f k l0 = some r) :
    Calls Try.prog 69 #[.slice A0 l0.length c0] w fun e w' => e = .returned (.bool r) ∧ Below w.heap.size w w' := by
  have HR0 := Aside0.mk hr0
  have HC0 := Aside0.mk hc0
  clear hr0 hc0
  have HM := Aside0.mk (MS.start w)
  have H : (if (l0.length : Int) ≤ 64 then ((slices_ContainsFunc_int_int.f k l0 (fun x_ => impl_isWord_1.f x_)).bind fun t107 => (some (!t107))) else (some false)) = some r := h
  clear h
  by_cases c1_ : (l0.length : Int) ≤ 64
  · rw [if_pos c1_] at H
    have c1_b0 : decide ((l0.length : Int) ≤ 64) = true := decide_eq_true c1_
    have c1_b1 : decide (l0.length ≤ 64) = true := decide_eq_true (by omega)
    clear c1_
    replace H := Option.bind_eq_some_iff.mp H
    obtain ⟨t107, A2_0, H⟩ := H
    replace H : (some (!t107)) = some r := H
    have A2_ := Aside0.mk A2_0
    clear A2_0
    obtain rfl := Option.some.inj H
    have fv106 := Aside0.mk (show FnB Try.prog w (.func (.func 87) #[] #[]) (fun x_ => impl_isWord_1.f x_) from FnB.mk Try.func87 rfl rfl (fun W_ hW_ x_ r_ hr_ => (show Calls Try.prog 87 #[.int .i64 x_] W_ _ from drawn_calls (impl_isWord_1.calls x_ r_ W_  hr_))))
    go_enter Try.func69, Try.ntmps69
    go_wp2_with (first | (go_at_call 71; (refine calls_of_args (args' := #[.slice A0 l0.length c0, .func (.func 87) #[] #[]]) (by first | done | rfl) ?_); (with_reducible refine (slices_ContainsFunc_int_int.calls k _ _ l0 _ (fun x_ => impl_isWord_1.f x_) t107 _ ?sd0 ?sd1 ?sd2 A2_.out).mono ?_); (case sd0 => exact (Kd.C_below HR0.out HM.out.below)); (case sd1 => exact HC0.out); (case sd2 => exact fv106.out); rintro e_ w3_ ⟨rfl, hb⟩; have n_ := Aside0.mk (HM.out.step hb); clear HM; have HM := n_; clear n_; clear hb))
    go_ret
    exact ⟨by first | rfl | (simp; done) | (simp [*]; done), HM.out.below⟩
  · rw [if_neg c1_] at H
    have c1_b0 : decide ((l0.length : Int) ≤ 64) = false := decide_eq_false c1_
    have c1_b1 : decide (l0.length ≤ 64) = false := decide_eq_false (by omega)
    clear c1_
    obtain rfl := Option.some.inj H
    go_enter Try.func69, Try.ntmps69
    go_wp2
    go_ret
    exact ⟨by first | rfl | (simp; done) | (simp [*]; done), HM.out.below⟩

/-! ### impl_nail: function 73 -/
def impl_nail.f (a0 : Int) : Option (Int) := some (mx a0 (wrap64 (-a0)))
set_option maxHeartbeats 8000000 in
set_option maxRecDepth 100000 in
theorem impl_nail.calls (a0 : Int) (r : Int) (w : World)  (h : impl_nail.f a0 = some r) :
    Calls Try.prog 73 #[.int .i64 a0] w fun e w' => e = .returned (.int .i64 r) ∧ Drawn0 w w' := by
  have HM := Aside0.mk (MS.start w)
  have HD := Aside0.mk (Drawn0.refl w)
  have H : (some (mx a0 (wrap64 (-a0)))) = some r := h
  clear h
  obtain ⟨ji1_, hji1_⟩ : ∃ j_ : Int, (mx a0 (wrap64 (-a0))) = j_ := ⟨_, rfl⟩
  replace H : (some ji1_) = some r := by first | (rw [hji1_] at H; exact H) | (simp only [hji1_] at H ⊢; exact H)
  have hji1__ : (if a0 < (wrap64 (-a0)) then (wrap64 (-a0)) else a0) = ji1_ := hji1_
  obtain rfl := Option.some.inj H
  go_enter Try.func73, Try.ntmps73
  go_wp2
  go_ret
  exact ⟨by first | rfl | (simp; done) | (simp only [← hji1_] <;> (first | rfl | simp)) | (simp [*]; done), HD.out⟩

/-! ### impl_isOver_1: function 72 -/
def impl_isOver_1.f (a0 : Int) (a1 : Int) : Option (Bool) := (impl_nail.f a0).bind fun t108 => (some (decide (t108 > a1)))
set_option maxHeartbeats 8000000 in
set_option maxRecDepth 100000 in
theorem impl_isOver_1.calls (a0 : Int) (gb1 : Nat) (a1 : Int) (r : Bool) (w : World) (hq1 : w.heap[gb1]? = some (.cells #[.int .i64 a1] 3 (0, 0))) (h : impl_isOver_1.f a0 a1 = some r) :
    Calls Try.prog 72 #[.int .i64 a0, .pointer (some ⟨gb1, 0, none⟩)] w fun e w' => e = .returned (.bool r) ∧ Drawn0 w w' := by
  have HQ1 := Aside0.mk hq1
  clear hq1
  have HM := Aside0.mk (MS.start w)
  have HD := Aside0.mk (Drawn0.refl w)
  have H : ((impl_nail.f a0).bind fun t108 => (some (decide (t108 > a1)))) = some r := h
  clear h
  replace H := Option.bind_eq_some_iff.mp H
  obtain ⟨t108, A1_0, H⟩ := H
  replace H : (some (decide (t108 > a1))) = some r := H
  have A1_ := Aside0.mk A1_0
  clear A1_0
  obtain rfl := Option.some.inj H
  go_enter Try.func72, Try.ntmps72
  go_wp2
  have hcz3_0 : w.cell? ⟨gb1, 0, none⟩ = some (.int .i64 a1) := (blk_cell (blk_below HQ1.out HM.out.below) 0).trans rfl
  have hfz3_0 := blk_frozen (blk_below HQ1.out HM.out.below) 0
  go_quiet ((go_at_call 73; refine calls_quiet (v := .int .i64 t108) ?_; exact (impl_nail.calls a0 t108 _  A1_.out)))
  generalize hw : World.drewN _ _ = w4_
  have n_ := Aside0.mk (HM.out.step (show Below _ _ w4_ from hw ▸ pw_below_drewN (Below.refl _ _) _))
  have nd_ := Aside0.mk (HD.out.trans (show Drawn0 _ w4_ from ⟨⟨_, hw.symm⟩⟩))
  clear HD
  have HD := nd_
  clear nd_
  clear HM hw
  have HM := n_
  clear n_
  go_wp2
  go_ret
  exact ⟨by first | rfl | (simp; done) | (simp [*]; done), HD.out⟩

/-! ### impl_isOver: function 46 -/
def impl_isOver.f (k : Nat) (l0 : List Int) (a1 : Int) : Option (Bool) := (impl_isNail.f a1).bind fun t109 => (if t109 = true then ((impl_isWord.f k l0).bind fun t110 => (if t110 = true then ((impl_reduced.f k l0).bind fun t111 => (if (t111.length : Int) = (l0.length : Int) then ((slices_ContainsFunc_int_int.f k l0 (fun x_ => impl_isOver_1.f x_ a1)).bind fun t113 => (some (!t113))) else (some false))) else (some false))) else (some false))
set_option maxHeartbeats 8000000 in
set_option maxRecDepth 100000 in
theorem impl_isOver.calls (k : Nat) (A0 : Option Addr) (c0 : Nat) (l0 : List Int) (a1 : Int) (r : Bool) (w : World) (hr0 : Kd.C (Kd.int .i64) w A0 l0.length l0) (hc0 : l0.length ≤ c0) (h : impl_isOver.f k l0 a1 = some r) :
    Calls Try.prog 46 #[.slice A0 l0.length c0, .int .i64 a1] w fun e w' => e = .returned (.bool r) ∧ Below w.heap.size w w' := by
  have HR0 := Aside0.mk hr0
  have HC0 := Aside0.mk hc0
  clear hr0 hc0
  have HM := Aside0.mk (MS.start w)
  have H : ((impl_isNail.f a1).bind fun t109 => (if t109 = true then ((impl_isWord.f k l0).bind fun t110 => (if t110 = true then ((impl_reduced.f k l0).bind fun t111 => (if (t111.length : Int) = (l0.length : Int) then ((slices_ContainsFunc_int_int.f k l0 (fun x_ => impl_isOver_1.f x_ a1)).bind fun t113 => (some (!t113))) else (some false))) else (some false))) else (some false))) = some r := h
  clear h
  replace H := Option.bind_eq_some_iff.mp H
  obtain ⟨t109, A1_0, H⟩ := H
  replace H : (if t109 = true then ((impl_isWord.f k l0).bind fun t110 => (if t110 = true then ((impl_reduced.f k l0).bind fun t111 => (if (t111.length : Int) = (l0.length : Int) then ((slices_ContainsFunc_int_int.f k l0 (fun x_ => impl_isOver_1.f x_ a1)).bind fun t113 => (some (!t113))) else (some false))) else (some false))) else (some false)) = some r := H
  have A1_ := Aside0.mk A1_0
  clear A1_0
  by_cases c2_ : t109 = true
  · subst c2_
    have H1 : ((impl_isWord.f k l0).bind fun t110 => (if t110 = true then ((impl_reduced.f k l0).bind fun t111 => (if (t111.length : Int) = (l0.length : Int) then ((slices_ContainsFunc_int_int.f k l0 (fun x_ => impl_isOver_1.f x_ a1)).bind fun t113 => (some (!t113))) else (some false))) else (some false))) = some r := by rw [if_pos rfl] at H; exact H
    clear H
    have H := H1
    clear H1
    replace H := Option.bind_eq_some_iff.mp H
    obtain ⟨t110, A3_0, H⟩ := H
    replace H : (if t110 = true then ((impl_reduced.f k l0).bind fun t111 => (if (t111.length : Int) = (l0.length : Int) then ((slices_ContainsFunc_int_int.f k l0 (fun x_ => impl_isOver_1.f x_ a1)).bind fun t113 => (some (!t113))) else (some false))) else (some false)) = some r := H
    have A3_ := Aside0.mk A3_0
    clear A3_0
    by_cases c4_ : t110 = true
    · subst c4_
      have H1 : ((impl_reduced.f k l0).bind fun t111 => (if (t111.length : Int) = (l0.length : Int) then ((slices_ContainsFunc_int_int.f k l0 (fun x_ => impl_isOver_1.f x_ a1)).bind fun t113 => (some (!t113))) else (some false))) = some r := by rw [if_pos rfl] at H; exact H
      clear H
      have H := H1
      clear H1
      replace H := Option.bind_eq_some_iff.mp H
      obtain ⟨t111, A5_0, H⟩ := H
      replace H : (if (t111.length : Int) = (l0.length : Int) then ((slices_ContainsFunc_int_int.f k l0 (fun x_ => impl_isOver_1.f x_ a1)).bind fun t113 => (some (!t113))) else (some false)) = some r := H
      have A5_ := Aside0.mk A5_0
      clear A5_0
      by_cases c6_ : (t111.length : Int) = (l0.length : Int)
      · rw [if_pos c6_] at H
        have c6_b0 : ((t111.length : Int) == (l0.length : Int)) = true := beq_iff_eq.mpr c6_
        have c6_b1 : ((t111.length : Int) != (l0.length : Int)) = false := bne_eq_false_iff_eq.mpr c6_
        have c6_b2 : (t111.length == l0.length) = true := by first | simpa using c6_ | (simp at c6_ ⊢; omega)
        clear c6_
        replace H := Option.bind_eq_some_iff.mp H
        obtain ⟨t113, A7_0, H⟩ := H
        replace H : (some (!t113)) = some r := H
        have A7_ := Aside0.mk A7_0
        clear A7_0
        obtain rfl := Option.some.inj H
        go_enter Try.func46, Try.ntmps46
        go_wp2_with (first | ((with_reducible refine gate_dst (N := 3) rfl ?_); refine box_event ?hg (N := 3) ?hd (cs := #[.int .i64 a1]) (t := 3) ?hr ?_; (case hd => rfl); (case hg => rfl); (case hr => first | (go_simp; done) | (go_simp; rfl)); intro gb1 hg w8_ hbox hb; have n_ := Aside0.mk (HM.out.addBox hb hbox hg); clear HM; have HM := n_; clear n_; clear hb hbox hg; have hcz9_0 : w8_.cell? ⟨gb1, 0, none⟩ = some (.int .i64 a1) := (blk_cell (HM.out.box 0 rfl) 0).trans rfl; have hfz9_0 := blk_frozen (HM.out.box 0 rfl) 0) | ((with_reducible refine gate_callee (f := 37) rfl ?_); (with_reducible refine gate_dst (N := 6) rfl ?_); refine goesL_ (some 6) rfl rfl Try.func37 (by kernel_rfl) rfl #[.int .i64 a1] rfl (by (try simp only [List.map_toArray, List.map_cons, List.map_nil]); first | done | rfl | (simp only [List.length_drop, List.length_take]; rfl)) ?_; (with_reducible refine (impl_isNail.calls a1 true _  A1_.out).mono ?_); rintro e_ w10_ ⟨rfl, hd_⟩; refine ⟨_, rfl, ?_⟩; have hb := hd_.below; clear hd_; have n_ := Aside0.mk (HM.out.step hb); clear HM; have HM := n_; clear n_; clear hb) | (go_at_call 69; (refine calls_of_args (args' := #[.slice A0 l0.length c0]) (by first | done | rfl) ?_); (with_reducible refine (impl_isWord.calls k _ _ l0 true _ ?sd0 ?sd1 A3_.out).mono ?_); (case sd0 => exact (Kd.C_below HR0.out HM.out.below)); (case sd1 => exact HC0.out); rintro e_ w11_ ⟨rfl, hb⟩; have n_ := Aside0.mk (HM.out.step hb); clear HM; have HM := n_; clear n_; clear hb) | (go_at_call 70; (refine calls_of_args (args' := #[.slice A0 l0.length c0]) (by first | done | rfl) ?_); (with_reducible refine (impl_reduced.calls k _ _ l0 t111 _ ?sd0 ?sd1 A5_.out).mono ?_); (case sd0 => exact (Kd.C_below HR0.out HM.out.below)); (case sd1 => exact HC0.out); rintro e_ w12_ ⟨vv0_, rfl, ho0_, hb⟩; obtain ⟨Ao2_0, co2_0, ev_⟩ := Kd.R_slice ho0_; subst ev_; have n_ := Aside0.mk (HM.out.addR hb ho0_); clear HM; have HM := n_; clear n_; clear hb ho0_; have fv112 := Aside0.mk (show FnB Try.prog w12_ (.func (.func 72) #[] #[.pointer (some ⟨gb1, 0, none⟩)]) (fun x_ => impl_isOver_1.f x_ a1) from FnB.mk Try.func72 rfl rfl (fun W_ hW_ x_ r_ hr_ => (show Calls Try.prog 72 #[.int .i64 x_, .pointer (some ⟨gb1, 0, none⟩)] W_ _ from drawn_calls (impl_isOver_1.calls x_ _ a1 r_ W_ (blk_below (HM.out.box 1 rfl) hW_) hr_))))) | (go_at_call 71; (refine calls_of_args (args' := #[.slice A0 l0.length c0, .func (.func 72) #[] #[.pointer (some ⟨gb1, 0, none⟩)]]) (by first | done | rfl) ?_); (with_reducible refine (slices_ContainsFunc_int_int.calls k _ _ l0 _ (fun x_ => impl_isOver_1.f x_ a1) t113 _ ?sd0 ?sd1 ?sd2 A7_.out).mono ?_); (case sd0 => exact (Kd.C_below HR0.out HM.out.below)); (case sd1 => exact HC0.out); (case sd2 => exact fv112.out); rintro e_ w13_ ⟨rfl, hb⟩; have n_ := Aside0.mk (HM.out.step hb); clear HM; have HM := n_; clear n_; clear hb))
        go_ret
        exact ⟨by first | rfl | (simp; done) | (simp [*]; done), HM.out.below⟩
      · rw [if_neg c6_] at H
        have c6_b0 : ((t111.length : Int) == (l0.length : Int)) = false := beq_eq_false_iff_ne.mpr c6_
        have c6_b1 : ((t111.length : Int) != (l0.length : Int)) = true := bne_iff_ne.mpr c6_
        have c6_b2 : (t111.length == l0.length) = false := by first | simpa using c6_ | (simp at c6_ ⊢; omega)
        clear c6_
        obtain rfl := Option.some.inj H
        go_enter Try.func46, Try.ntmps46
        go_wp2_with (first | ((with_reducible refine gate_dst (N := 3) rfl ?_); refine box_event ?hg (N := 3) ?hd (cs := #[.int .i64 a1]) (t := 3) ?hr ?_; (case hd => rfl); (case hg => rfl); (case hr => first | (go_simp; done) | (go_simp; rfl)); intro gb1 hg w14_ hbox hb; have n_ := Aside0.mk (HM.out.addBox hb hbox hg); clear HM; have HM := n_; clear n_; clear hb hbox hg; have hcz15_0 : w14_.cell? ⟨gb1, 0, none⟩ = some (.int .i64 a1) := (blk_cell (HM.out.box 0 rfl) 0).trans rfl; have hfz15_0 := blk_frozen (HM.out.box 0 rfl) 0) | ((with_reducible refine gate_callee (f := 37) rfl ?_); (with_reducible refine gate_dst (N := 6) rfl ?_); refine goesL_ (some 6) rfl rfl Try.func37 (by kernel_rfl) rfl #[.int .i64 a1] rfl (by (try simp only [List.map_toArray, List.map_cons, List.map_nil]); first | done | rfl | (simp only [List.length_drop, List.length_take]; rfl)) ?_; (with_reducible refine (impl_isNail.calls a1 true _  A1_.out).mono ?_); rintro e_ w16_ ⟨rfl, hd_⟩; refine ⟨_, rfl, ?_⟩; have hb := hd_.below; clear hd_; have n_ := Aside0.mk (HM.out.step hb); clear HM; have HM := n_; clear n_; clear hb) | (go_at_call 69; (refine calls_of_args (args' := #[.slice A0 l0.length c0]) (by first | done | rfl) ?_); (with_reducible refine (impl_isWord.calls k _ _ l0 true _ ?sd0 ?sd1 A3_.out).mono ?_); (case sd0 => exact (Kd.C_below HR0.out HM.out.below)); (case sd1 => exact HC0.out); rintro e_ w17_ ⟨rfl, hb⟩; have n_ := Aside0.mk (HM.out.step hb); clear HM; have HM := n_; clear n_; clear hb) | (go_at_call 70; (refine calls_of_args (args' := #[.slice A0 l0.length c0]) (by first | done | rfl) ?_); (with_reducible refine (impl_reduced.calls k _ _ l0 t111 _ ?sd0 ?sd1 A5_.out).mono ?_); (case sd0 => exact (Kd.C_below HR0.out HM.out.below)); (case sd1 => exact HC0.out); rintro e_ w18_ ⟨vv0_, rfl, ho0_, hb⟩; obtain ⟨Ao2_0, co2_0, ev_⟩ := Kd.R_slice ho0_; subst ev_; have n_ := Aside0.mk (HM.out.addR hb ho0_); clear HM; have HM := n_; clear n_; clear hb ho0_))
        go_ret
        exact ⟨by first | rfl | (simp; done) | (simp [*]; done), HM.out.below⟩
    · replace c4_ := Bool.eq_false_iff.mpr c4_
      subst c4_
      have H1 : (some false) = some r := by rw [if_neg (show ¬ (false = true) by decide)] at H; exact H
      clear H
      have H := H1
      clear H1
      obtain rfl := Option.some.inj H
      go_enter Try.func46, Try.ntmps46
      go_wp2_with (first | ((with_reducible refine gate_dst (N := 3) rfl ?_); refine box_event ?hg (N := 3) ?hd (cs := #[.int .i64 a1]) (t := 3) ?hr ?_; (case hd => rfl); (case hg => rfl); (case hr => first | (go_simp; done) | (go_simp; rfl)); intro gb1 hg w19_ hbox hb; have n_ := Aside0.mk (HM.out.addBox hb hbox hg); clear HM; have HM := n_; clear n_; clear hb hbox hg; have hcz20_0 : w19_.cell? ⟨gb1, 0, none⟩ = some (.int .i64 a1) := (blk_cell (HM.out.box 0 rfl) 0).trans rfl; have hfz20_0 := blk_frozen (HM.out.box 0 rfl) 0) | ((with_reducible refine gate_callee (f := 37) rfl ?_); (with_reducible refine gate_dst (N := 6) rfl ?_); refine goesL_ (some 6) rfl rfl Try.func37 (by kernel_rfl) rfl #[.int .i64 a1] rfl (by (try simp only [List.map_toArray, List.map_cons, List.map_nil]); first | done | rfl | (simp only [List.length_drop, List.length_take]; rfl)) ?_; (with_reducible refine (impl_isNail.calls a1 true _  A1_.out).mono ?_); rintro e_ w21_ ⟨rfl, hd_⟩; refine ⟨_, rfl, ?_⟩; have hb := hd_.below; clear hd_; have n_ := Aside0.mk (HM.out.step hb); clear HM; have HM := n_; clear n_; clear hb) | (go_at_call 69; (refine calls_of_args (args' := #[.slice A0 l0.length c0]) (by first | done | rfl) ?_); (with_reducible refine (impl_isWord.calls k _ _ l0 false _ ?sd0 ?sd1 A3_.out).mono ?_); (case sd0 => exact (Kd.C_below HR0.out HM.out.below)); (case sd1 => exact HC0.out); rintro e_ w22_ ⟨rfl, hb⟩; have n_ := Aside0.mk (HM.out.step hb); clear HM; have HM := n_; clear n_; clear hb))
      go_ret
      exact ⟨by first | rfl | (simp; done) | (simp [*]; done), HM.out.below⟩
  · replace c2_ := Bool.eq_false_iff.mpr c2_
    subst c2_
    have H1 : (some false) = some r := by rw [if_neg (show ¬ (false = true) by decide)] at H; exact H
    clear H
    have H := H1
    clear H1
    obtain rfl := Option.some.inj H
    go_enter Try.func46, Try.ntmps46
    go_wp2_with (first | ((with_reducible refine gate_dst (N := 3) rfl ?_); refine box_event ?hg (N := 3) ?hd (cs := #[.int .i64 a1]) (t := 3) ?hr ?_; (case hd => rfl); (case hg => rfl); (case hr => first | (go_simp; done) | (go_simp; rfl)); intro gb1 hg w23_ hbox hb; have n_ := Aside0.mk (HM.out.addBox hb hbox hg); clear HM; have HM := n_; clear n_; clear hb hbox hg; have hcz24_0 : w23_.cell? ⟨gb1, 0, none⟩ = some (.int .i64 a1) := (blk_cell (HM.out.box 0 rfl) 0).trans rfl; have hfz24_0 := blk_frozen (HM.out.box 0 rfl) 0) | ((with_reducible refine gate_callee (f := 37) rfl ?_); (with_reducible refine gate_dst (N := 6) rfl ?_); refine goesL_ (some 6) rfl rfl Try.func37 (by kernel_rfl) rfl #[.int .i64 a1] rfl (by (try simp only [List.map_toArray, List.map_cons, List.map_nil]); first | done | rfl | (simp only [List.length_drop, List.length_take]; rfl)) ?_; (with_reducible refine (impl_isNail.calls a1 false _  A1_.out).mono ?_); rintro e_ w25_ ⟨rfl, hd_⟩; refine ⟨_, rfl, ?_⟩; have hb := hd_.below; clear hd_; have n_ := Aside0.mk (HM.out.step hb); clear HM; have HM := n_; clear n_; clear hb))
    go_ret
    exact ⟨by first | rfl | (simp; done) | (simp [*]; done), HM.out.below⟩

end Go.Proofs.Ytnpgegfffklcpaa.Q
