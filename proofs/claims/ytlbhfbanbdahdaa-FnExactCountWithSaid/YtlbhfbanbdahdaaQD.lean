-- Written by a program of this session's own (wip/wgen.py): what functions of the program compute, and that they do.
import Derived.Below
import Derived.Deep.Draws
import Derived.Deep.AppendLies
import Derived.Maps.AppendAt
import Derived.OwnWalk
import Derived.Laws.BytesArg
import Derived.Laws.MakeOwn
import Derived.Laws.OwnMore
import Derived.Deep.OwnRows
import Derived.Tactics
import Derived.Lib.ConvBytes
import Derived.Laws.Slices
import Derived.WalkKit
import Derived.KernelRfl
import Derived.RowKit3
import Derived.Deep.LoopGhost
import Derived.Deep.QuietTactic
import Derived.BigQuiet
import Derived.WideLaws
import Derived.Deep.DeepCutAuto
import Derived.Deep.CutBlock
import Derived.Deep.RegionHeld3
import Derived.Laws.Rows
import Derived.Lib.AppendStr
import Derived.ArgAppend
import Derived.Laws.IdiomCopy
import Derived.OrdersHeld
import Derived.Laws.BitsLemmas
import Derived.RowKit
import Derived.Lib.SliceRun
import Derived.Test.YtlbhfbanbdahdaaHM
import Derived.Test.YtlbhfbanbdahdaaRG
import Derived.Test.YtlbhfbanbdahdaaProg
import Derived.Test.YtlbhfbanbdahdaaK1
import Derived.Test.YtlbhfbanbdahdaaK2
import Derived.Test.YtlbhfbanbdahdaaKA1
import Derived.Test.YtlbhfbanbdahdaaQI
import Derived.Test.YtlbhfbanbdahdaaCN
import Derived.Test.YtlbhfbanbdahdaaDF
import Derived.Test.YtlbhfbanbdahdaaQA
import Derived.Test.YtlbhfbanbdahdaaQB
import Derived.Test.YtlbhfbanbdahdaaQC
import Derived.Test.YtlbhfbanbdahdaaWO
namespace Go.Proofs.Ytlbhfbanbdahdaa.Q
open Go.RowKit Go.Proofs.YtlbhfbanbdahdaaW.PrintWords Go.Proofs.YtlbhfbanbdahdaaW.PrintLast Go.Proofs.YtlbhfbanbdahdaaW.PrintMore Go.Proofs.YtlbhfbanbdahdaaM Go.Proofs.Ytlbhfbanbdahdaa.K Go.Proofs.Ytlbhfbanbdahdaa.KA
attribute [local go_sem] max2_int min2_int max_two min_two max_three min_three max_four min_four
set_option linter.unusedVariables false
set_option linter.unusedSimpArgs false

/-! ### impl_CountWith: function 27 -/
def impl_CountWith.l0 : Nat → (Int) → (Int) → (Int) → (List (List Int)) → (Int) → (Int) → Option (Int × Bool)
  | 0, _, _, _, _, _, _ => none
  | k + 1, x1, x8, x9, x26, x27, x28 => if x28 < x27 then (if 0 ≤ x28 then (if x28 < (x26.length : Int) then ((impl_ruleOf.f k x1 (rdOf [] x26 x28)).bind fun t112 => (if t112 = x9 then (impl_CountWith.l0 k x1 (wrap64 (x8 + 1)) x9 x26 x27 (wrap64 (x28 + 1))) else (impl_CountWith.l0 k x1 x8 x9 x26 x27 (wrap64 (x28 + 1))))) else (none)) else (none)) else (some (x8, true))
def impl_CountWith.f (k : Nat) (l0_0 : List Int) (a1 : Int) (a2 : Int) : Option (Int × Bool) := (impl_isFamily.f k l0_0).bind fun t107 => (if t107 = true then ((impl_isSearched.f k a1 a2).bind fun t108 => (if t108 = true then ((impl_Family_rule.f k l0_0 a1).bind fun t109 => ((impl_wordsOf.f k a1 a2).bind fun t110 => (impl_CountWith.l0 k a1 0 t109 t110 (t110.length : Int) 0))) else (some (0, false)))) else (some (0, false)))
set_option maxHeartbeats 8000000 in
set_option maxRecDepth 100000 in
theorem impl_CountWith.calls (k : Nat) (A0_0 : Option Addr) (c0_0 : Nat) (l0_0 : List Int) (a1 : Int) (a2 : Int) (r1 : Int) (r2 : Bool) (w : World) (hr0_0 : Kd.C (Kd.int .i64) w A0_0 l0_0.length l0_0) (hc0_0 : l0_0.length ≤ c0_0) (h : impl_CountWith.f k l0_0 a1 a2 = some (r1, r2)) :
    Calls Try.prog 27 #[.agg #[.slice A0_0 l0_0.length c0_0], .int .i64 a1, .int .i64 a2] w fun e w' => e = .returned (.tuple #[.int .i64 r1, .bool r2]) ∧ Below w.heap.size w w' := by
  have HR0_0 := Aside0.mk hr0_0
  have HC0_0 := Aside0.mk hc0_0
  clear hr0_0 hc0_0
  have hu22 := Try.underlying22
  have hu30 := Try.underlying30
  have hu60 := Try.underlying60
  have HM := Aside0.mk (MS.start w)
  have H : ((impl_isFamily.f k l0_0).bind fun t107 => (if t107 = true then ((impl_isSearched.f k a1 a2).bind fun t108 => (if t108 = true then ((impl_Family_rule.f k l0_0 a1).bind fun t109 => ((impl_wordsOf.f k a1 a2).bind fun t110 => (impl_CountWith.l0 k a1 0 t109 t110 (t110.length : Int) 0))) else (some (0, false)))) else (some (0, false)))) = some (r1, r2) := h
  clear h
  replace H := Option.bind_eq_some_iff.mp H
  obtain ⟨t107, A1_0, H⟩ := H
  replace H : (if t107 = true then ((impl_isSearched.f k a1 a2).bind fun t108 => (if t108 = true then ((impl_Family_rule.f k l0_0 a1).bind fun t109 => ((impl_wordsOf.f k a1 a2).bind fun t110 => (impl_CountWith.l0 k a1 0 t109 t110 (t110.length : Int) 0))) else (some (0, false)))) else (some (0, false))) = some (r1, r2) := H
  have A1_ := Aside0.mk A1_0
  clear A1_0
  by_cases c2_ : t107 = true
  · subst c2_
    have H1 : ((impl_isSearched.f k a1 a2).bind fun t108 => (if t108 = true then ((impl_Family_rule.f k l0_0 a1).bind fun t109 => ((impl_wordsOf.f k a1 a2).bind fun t110 => (impl_CountWith.l0 k a1 0 t109 t110 (t110.length : Int) 0))) else (some (0, false)))) = some (r1, r2) := by rw [if_pos rfl] at H; exact H
    clear H
    have H := H1
    clear H1
    replace H := Option.bind_eq_some_iff.mp H
    obtain ⟨t108, A3_0, H⟩ := H
    replace H : (if t108 = true then ((impl_Family_rule.f k l0_0 a1).bind fun t109 => ((impl_wordsOf.f k a1 a2).bind fun t110 => (impl_CountWith.l0 k a1 0 t109 t110 (t110.length : Int) 0))) else (some (0, false))) = some (r1, r2) := H
    have A3_ := Aside0.mk A3_0
    clear A3_0
    by_cases c4_ : t108 = true
    · subst c4_
      have H1 : ((impl_Family_rule.f k l0_0 a1).bind fun t109 => ((impl_wordsOf.f k a1 a2).bind fun t110 => (impl_CountWith.l0 k a1 0 t109 t110 (t110.length : Int) 0))) = some (r1, r2) := by rw [if_pos rfl] at H; exact H
      clear H
      have H := H1
      clear H1
      replace H := Option.bind_eq_some_iff.mp H
      obtain ⟨t109, A5_0, H⟩ := H
      replace H : ((impl_wordsOf.f k a1 a2).bind fun t110 => (impl_CountWith.l0 k a1 0 t109 t110 (t110.length : Int) 0)) = some (r1, r2) := H
      have A5_ := Aside0.mk A5_0
      clear A5_0
      replace H := Option.bind_eq_some_iff.mp H
      obtain ⟨t110, A6_0, H⟩ := H
      replace H : (impl_CountWith.l0 k a1 0 t109 t110 (t110.length : Int) 0) = some (r1, r2) := H
      have A6_ := Aside0.mk A6_0
      clear A6_0
      have H' := Aside0.mk H
      clear H
      go_enter Try.func27, Try.ntmps27
      go_wp2_with (first | ((with_reducible refine gate_dst (N := 3) rfl ?_); refine box_event ?hg (N := 3) ?hd (cs := #[.slice A0_0 l0_0.length c0_0]) (t := 30) ?hr ?_; (case hd => rfl); (case hg => rfl); (case hr => first | (go_simp; done) | (go_simp; rfl)); intro gb1 hg w7_ hbox hb; have n_ := Aside0.mk (HM.out.addBox hb hbox hg); clear HM; have HM := n_; clear n_; clear hb hbox hg; have hcz8_0 : w7_.cell? ⟨gb1, 0, none⟩ = some (.slice A0_0 l0_0.length c0_0) := (blk_cell (HM.out.box 0 rfl) 0).trans rfl; have hfz8_0 := blk_frozen (HM.out.box 0 rfl) 0) | ((with_reducible refine gate_callee (f := 45) rfl ?_); (with_reducible refine gate_dst (N := 13) rfl ?_); refine goesL_ (some 13) rfl rfl Try.func45 (by kernel_rfl) rfl #[.agg #[.slice A0_0 l0_0.length c0_0]] rfl (by (try simp only [List.map_toArray, List.map_cons, List.map_nil]); first | done | rfl | (simp only [List.length_drop, List.length_take]; rfl)) ?_; (with_reducible refine (impl_isFamily.calls k _ _ l0_0 true _ ?sd0 ?sd1 A1_.out).mono ?_); (case sd0 => exact (Kd.C_below HR0_0.out HM.out.below)); (case sd1 => exact HC0_0.out); rintro e_ w9_ ⟨rfl, hb⟩; refine ⟨_, rfl, ?_⟩; have n_ := Aside0.mk (HM.out.step hb); clear HM; have HM := n_; clear n_; clear hb) | (go_at_call 56; (refine calls_of_args (args' := #[.int .i64 a1, .int .i64 a2]) (by first | done | rfl) ?_); (with_reducible refine (impl_isSearched.calls k a1 a2 true _  A3_.out).mono ?_); rintro e_ w10_ ⟨rfl, hd_⟩; have hb := hd_.below; clear hd_; have n_ := Aside0.mk (HM.out.step hb); clear HM; have HM := n_; clear n_; clear hb; have hcz11_0 : w10_.cell? ⟨gb1, 0, none⟩ = some (.slice A0_0 l0_0.length c0_0) := (blk_cell (HM.out.box 0 rfl) 0).trans rfl; have hfz11_0 := blk_frozen (HM.out.box 0 rfl) 0) | ((with_reducible refine gate_callee (f := 57) rfl ?_); (with_reducible refine gate_dst (N := 23) rfl ?_); refine goesL_ (some 23) rfl rfl Try.func57 (by kernel_rfl) rfl #[.agg #[.slice A0_0 l0_0.length c0_0], .int .i64 a1] rfl (by (try simp only [List.map_toArray, List.map_cons, List.map_nil]); first | done | rfl | (simp only [List.length_drop, List.length_take]; rfl)) ?_; (with_reducible refine (impl_Family_rule.calls k _ _ l0_0 a1 t109 _ ?sd0 ?sd1 A5_.out).mono ?_); (case sd0 => exact (Kd.C_below HR0_0.out HM.out.below)); (case sd1 => exact HC0_0.out); rintro e_ w12_ ⟨rfl, hb⟩; refine ⟨_, rfl, ?_⟩; have n_ := Aside0.mk (HM.out.step hb); clear HM; have HM := n_; clear n_; clear hb) | ((with_reducible refine gate_callee (f := 58) rfl ?_); (with_reducible refine gate_dst (N := 26) rfl ?_); refine goesL_ (some 26) rfl rfl Try.func58 (by kernel_rfl) rfl #[.int .i64 a1, .int .i64 a2] rfl (by (try simp only [List.map_toArray, List.map_cons, List.map_nil]); first | done | rfl | (simp only [List.length_drop, List.length_take]; rfl)) ?_; (with_reducible refine (impl_wordsOf.calls k a1 a2 t110 _  A6_.out).mono ?_); rintro e_ w13_ ⟨vv0_, rfl, ho0_, hb⟩; refine ⟨_, rfl, ?_⟩; obtain ⟨Ao2_0, co2_0, ev_, hl_, hF_⟩ := RoS.ofR (id ho0_); subst ev_; obtain ⟨ow2, hF2_, hM_⟩ := HM.out.addRo hb hF_; have HRh2 := Aside0.mk hF2_; have HCh2 := Aside0.mk hl_; have n_ := Aside0.mk hM_; clear HM hF_ hF2_ hl_ hM_; have HM := n_; clear n_; clear hb ho0_))
      go_loopg [8, 28] k (fun kq v8 v28 w' => ∃ (x8_14 : Int) (x28_14 : Int), v8 = .int .i64 x8_14 ∧ v28 = .int .i64 x28_14 ∧ Aside0 (impl_CountWith.l0 kq a1 x8_14 t109 t110 (t110.length : Int) x28_14 = some (r1, r2)) ∧ Aside0 (kq ≤ k) ∧ Aside0 (MS w w' [.any ow2 (Agree ow2 w13_), .box gb1 30 #[.slice A0_0 l0_0.length c0_0]]))
      case atStart => exact ⟨(0), (0), (by first | rfl | (simp; done) | (simp only [i64_w]; done) | (simp [i64_w]; done) | (simp [*]; done)), (by first | rfl | (simp; done) | (simp only [i64_w]; done) | (simp [i64_w]; done) | (simp [*]; done)), H', ⟨Nat.le_refl _⟩, HM⟩
      case round =>
        clear H'
        clear HM
        obtain ⟨x8_14, x28_14, rfl, rfl, HA, HK15_, HM⟩ := hrel
        cases gk with
        | zero => exact absurd HA.out (by simp [impl_CountWith.l0])
        | succ k16_ =>
          have H := HA.out
          clear HA
          simp only [impl_CountWith.l0] at H
          by_cases c17_ : x28_14 < (t110.length : Int)
          · rw [if_pos c17_] at H
            have c17_b0 : decide (x28_14 < (t110.length : Int)) = true := decide_eq_true c17_
            clear c17_
            by_cases c18_ : 0 ≤ x28_14
            · rw [if_pos c18_] at H
              have c18_b0 : decide (0 ≤ x28_14) = true := decide_eq_true c18_
              clear c18_
              by_cases c19_ : x28_14 < (t110.length : Int)
              · rw [if_pos c19_] at H
                have c19_b0 : decide (x28_14 < (t110.length : Int)) = true := decide_eq_true c19_
                clear c19_
                replace H := Option.bind_eq_some_iff.mp H
                obtain ⟨t112, A20_0, H⟩ := H
                replace H : (if t112 = t109 then (impl_CountWith.l0 k16_ a1 (wrap64 (x8_14 + 1)) t109 t110 (t110.length : Int) (wrap64 (x28_14 + 1))) else (impl_CountWith.l0 k16_ a1 x8_14 t109 t110 (t110.length : Int) (wrap64 (x28_14 + 1)))) = some (r1, r2) := H
                have A20_ := Aside0.mk A20_0
                clear A20_0
                by_cases c21_ : t112 = t109
                · rw [if_pos c21_] at H
                  have c21_b0 : (t112 == t109) = true := beq_iff_eq.mpr c21_
                  have c21_b1 : (t112 != t109) = false := bne_eq_false_iff_eq.mpr c21_
                  clear c21_
                  have H' := Aside0.mk H
                  clear H
                  have p111 : 0 ≤ (x28_14 : Int) := of_decide_eq_true (by first | (with_reducible assumption) | assumption)
                  have q111 : (x28_14 : Int) < (t110.length : Int) := of_decide_eq_true (by first | (with_reducible assumption) | assumption)
                  obtain ⟨ad111, Ae111, ce111, e111, hx111, hle111, hC111, hy111⟩ := held_elem HRh2.out (HM.out.any 0 rfl) x28_14 p111 q111
                  cases e111
                  have HY111 := Aside0.mk hy111
                  clear hy111
                  have HRe111 := Aside0.mk hC111
                  have HCe111 := Aside0.mk hle111
                  clear hC111 hle111
                  replace p111 := eq_true p111
                  replace q111 := eq_true q111
                  go_wp2_with (first | ((with_reducible refine gate_callee (f := 52) rfl ?_); (with_reducible refine gate_dst (N := 34) rfl ?_); refine goesL_ (some 34) rfl rfl Try.func52 (by kernel_rfl) rfl #[.int .i64 a1, .slice Ae111 (rdOf [] t110 x28_14).length ce111] rfl (by (try simp only [List.map_toArray, List.map_cons, List.map_nil]); first | done | rfl | (simp only [List.length_drop, List.length_take]; rfl)) ?_; (with_reducible refine (impl_ruleOf.calls k16_ a1 _ _ (rdOf [] t110 x28_14) t112 _ ?sd0 ?sd1 A20_.out).mono ?_); (case sd0 => exact (HM.out.heldC 0 rfl HRe111.out)); (case sd1 => exact HCe111.out); rintro e_ w22_ ⟨rfl, hb⟩; refine ⟨_, rfl, ?_⟩; have n_ := Aside0.mk (HM.out.step hb); clear HM; have HM := n_; clear n_; clear hb))
                  go_roundg k16_
                  case measure => have hHK15__ := HK15_.out; omega
                  case rel => exact ⟨(wrap64 (x8_14 + 1)), (wrap64 (x28_14 + 1)), (by first | rfl | (simp; done) | (simp only [i64_w]; done) | (simp [i64_w]; done) | (simp [*]; done)), (by first | rfl | (simp; done) | (simp only [i64_w]; done) | (simp [i64_w]; done) | (simp [*]; done)), H', ⟨by have hHK15__ := HK15_.out; omega⟩, HM⟩
                · rw [if_neg c21_] at H
                  have c21_b0 : (t112 == t109) = false := beq_eq_false_iff_ne.mpr c21_
                  have c21_b1 : (t112 != t109) = true := bne_iff_ne.mpr c21_
                  clear c21_
                  have H' := Aside0.mk H
                  clear H
                  have p111 : 0 ≤ (x28_14 : Int) := of_decide_eq_true (by first | (with_reducible assumption) | assumption)
                  have q111 : (x28_14 : Int) < (t110.length : Int) := of_decide_eq_true (by first | (with_reducible assumption) | assumption)
                  obtain ⟨ad111, Ae111, ce111, e111, hx111, hle111, hC111, hy111⟩ := held_elem HRh2.out (HM.out.any 0 rfl) x28_14 p111 q111
                  cases e111
                  have HY111 := Aside0.mk hy111
                  clear hy111
                  have HRe111 := Aside0.mk hC111
                  have HCe111 := Aside0.mk hle111
                  clear hC111 hle111
                  replace p111 := eq_true p111
                  replace q111 := eq_true q111
                  go_wp2_with (first | ((with_reducible refine gate_callee (f := 52) rfl ?_); (with_reducible refine gate_dst (N := 34) rfl ?_); refine goesL_ (some 34) rfl rfl Try.func52 (by kernel_rfl) rfl #[.int .i64 a1, .slice Ae111 (rdOf [] t110 x28_14).length ce111] rfl (by (try simp only [List.map_toArray, List.map_cons, List.map_nil]); first | done | rfl | (simp only [List.length_drop, List.length_take]; rfl)) ?_; (with_reducible refine (impl_ruleOf.calls k16_ a1 _ _ (rdOf [] t110 x28_14) t112 _ ?sd0 ?sd1 A20_.out).mono ?_); (case sd0 => exact (HM.out.heldC 0 rfl HRe111.out)); (case sd1 => exact HCe111.out); rintro e_ w23_ ⟨rfl, hb⟩; refine ⟨_, rfl, ?_⟩; have n_ := Aside0.mk (HM.out.step hb); clear HM; have HM := n_; clear n_; clear hb))
                  go_roundg k16_
                  case measure => have hHK15__ := HK15_.out; omega
                  case rel => exact ⟨(x8_14), (wrap64 (x28_14 + 1)), (by first | rfl | (simp; done) | (simp only [i64_w]; done) | (simp [i64_w]; done) | (simp [*]; done)), (by first | rfl | (simp; done) | (simp only [i64_w]; done) | (simp [i64_w]; done) | (simp [*]; done)), H', ⟨by have hHK15__ := HK15_.out; omega⟩, HM⟩
              · rw [if_neg c19_] at H
                have c19_b0 : decide (x28_14 < (t110.length : Int)) = false := decide_eq_false c19_
                clear c19_
                exact absurd H (by simp)
            · rw [if_neg c18_] at H
              have c18_b0 : decide (0 ≤ x28_14) = false := decide_eq_false c18_
              clear c18_
              exact absurd H (by simp)
          · rw [if_neg c17_] at H
            have c17_b0 : decide (x28_14 < (t110.length : Int)) = false := decide_eq_false c17_
            clear c17_
            simp only [Option.some.injEq, Prod.mk.injEq] at H
            obtain ⟨rfl, rfl⟩ := H
            go_wp2
            go_ret2
            exact ⟨by first | rfl | (simp; done) | (simp only [i64_w]; done) | (simp [i64_w]; done) | (simp [*]; done), HM.out.below⟩
    · replace c4_ := Bool.eq_false_iff.mpr c4_
      subst c4_
      have H1 : (some (0, false)) = some (r1, r2) := by rw [if_neg (show ¬ (false = true) by decide)] at H; exact H
      clear H
      have H := H1
      clear H1
      simp only [Option.some.injEq, Prod.mk.injEq] at H
      obtain ⟨rfl, rfl⟩ := H
      go_enter Try.func27, Try.ntmps27
      go_wp2_with (first | ((with_reducible refine gate_dst (N := 3) rfl ?_); refine box_event ?hg (N := 3) ?hd (cs := #[.slice A0_0 l0_0.length c0_0]) (t := 30) ?hr ?_; (case hd => rfl); (case hg => rfl); (case hr => first | (go_simp; done) | (go_simp; rfl)); intro gb1 hg w24_ hbox hb; have n_ := Aside0.mk (HM.out.addBox hb hbox hg); clear HM; have HM := n_; clear n_; clear hb hbox hg; have hcz25_0 : w24_.cell? ⟨gb1, 0, none⟩ = some (.slice A0_0 l0_0.length c0_0) := (blk_cell (HM.out.box 0 rfl) 0).trans rfl; have hfz25_0 := blk_frozen (HM.out.box 0 rfl) 0) | ((with_reducible refine gate_callee (f := 45) rfl ?_); (with_reducible refine gate_dst (N := 13) rfl ?_); refine goesL_ (some 13) rfl rfl Try.func45 (by kernel_rfl) rfl #[.agg #[.slice A0_0 l0_0.length c0_0]] rfl (by (try simp only [List.map_toArray, List.map_cons, List.map_nil]); first | done | rfl | (simp only [List.length_drop, List.length_take]; rfl)) ?_; (with_reducible refine (impl_isFamily.calls k _ _ l0_0 true _ ?sd0 ?sd1 A1_.out).mono ?_); (case sd0 => exact (Kd.C_below HR0_0.out HM.out.below)); (case sd1 => exact HC0_0.out); rintro e_ w26_ ⟨rfl, hb⟩; refine ⟨_, rfl, ?_⟩; have n_ := Aside0.mk (HM.out.step hb); clear HM; have HM := n_; clear n_; clear hb) | (go_at_call 56; (refine calls_of_args (args' := #[.int .i64 a1, .int .i64 a2]) (by first | done | rfl) ?_); (with_reducible refine (impl_isSearched.calls k a1 a2 false _  A3_.out).mono ?_); rintro e_ w27_ ⟨rfl, hd_⟩; have hb := hd_.below; clear hd_; have n_ := Aside0.mk (HM.out.step hb); clear HM; have HM := n_; clear n_; clear hb))
      go_ret2
      exact ⟨by first | rfl | (simp; done) | (simp only [i64_w]; done) | (simp [i64_w]; done) | (simp [*]; done), HM.out.below⟩
  · replace c2_ := Bool.eq_false_iff.mpr c2_
    subst c2_
    have H1 : (some (0, false)) = some (r1, r2) := by rw [if_neg (show ¬ (false = true) by decide)] at H; exact H
    clear H
    have H := H1
    clear H1
    simp only [Option.some.injEq, Prod.mk.injEq] at H
    obtain ⟨rfl, rfl⟩ := H
    go_enter Try.func27, Try.ntmps27
    go_wp2_with (first | ((with_reducible refine gate_dst (N := 3) rfl ?_); refine box_event ?hg (N := 3) ?hd (cs := #[.slice A0_0 l0_0.length c0_0]) (t := 30) ?hr ?_; (case hd => rfl); (case hg => rfl); (case hr => first | (go_simp; done) | (go_simp; rfl)); intro gb1 hg w28_ hbox hb; have n_ := Aside0.mk (HM.out.addBox hb hbox hg); clear HM; have HM := n_; clear n_; clear hb hbox hg; have hcz29_0 : w28_.cell? ⟨gb1, 0, none⟩ = some (.slice A0_0 l0_0.length c0_0) := (blk_cell (HM.out.box 0 rfl) 0).trans rfl; have hfz29_0 := blk_frozen (HM.out.box 0 rfl) 0) | ((with_reducible refine gate_callee (f := 45) rfl ?_); (with_reducible refine gate_dst (N := 13) rfl ?_); refine goesL_ (some 13) rfl rfl Try.func45 (by kernel_rfl) rfl #[.agg #[.slice A0_0 l0_0.length c0_0]] rfl (by (try simp only [List.map_toArray, List.map_cons, List.map_nil]); first | done | rfl | (simp only [List.length_drop, List.length_take]; rfl)) ?_; (with_reducible refine (impl_isFamily.calls k _ _ l0_0 false _ ?sd0 ?sd1 A1_.out).mono ?_); (case sd0 => exact (Kd.C_below HR0_0.out HM.out.below)); (case sd1 => exact HC0_0.out); rintro e_ w30_ ⟨rfl, hb⟩; refine ⟨_, rfl, ?_⟩; have n_ := Aside0.mk (HM.out.step hb); clear HM; have HM := n_; clear n_; clear hb))
    go_ret2
    exact ⟨by first | rfl | (simp; done) | (simp only [i64_w]; done) | (simp [i64_w]; done) | (simp [*]; done), HM.out.below⟩

end Go.Proofs.Ytlbhfbanbdahdaa.Q
