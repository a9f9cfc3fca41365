-- Written by a program of this session's own (wip/wgen.py): what functions of the program compute, and that they do.
import Derived.Below
import Derived.Deep.Draws
import Derived.Deep.AppendLies
import Derived.Maps.AppendAt
import Derived.OwnWalk
import Derived.Laws.BytesArg
import Derived.Laws.MakeOwn
import Derived.Laws.OwnMore
import Derived.Deep.OwnRows
import Derived.Tactics
import Derived.Lib.ConvBytes
import Derived.Laws.Slices
import Derived.WalkKit
import Derived.KernelRfl
import Derived.RowKit3
import Derived.Deep.LoopGhost
import Derived.Deep.QuietTactic
import Derived.BigQuiet
import Derived.WideLaws
import Derived.Deep.DeepCutAuto
import Derived.Deep.CutBlock
import Derived.Deep.RegionHeld3
import Derived.Laws.Rows
import Derived.Lib.AppendStr
import Derived.ArgAppend
import Derived.Laws.IdiomCopy
import Derived.OrdersHeld
import Derived.Laws.BitsLemmas
import Derived.RowKit
import Derived.Test.YtncdgimmalifjaaHM
import Derived.Test.YtncdgimmalifjaaRG
import Derived.Test.YtncdgimmalifjaaProg
import Derived.Test.YtncdgimmalifjaaQA
import Derived.Test.YtncdgimmalifjaaQB
import Derived.Test.YtncdgimmalifjaaQF
import Derived.Test.YtncdgimmalifjaaPFnExactAndFamilyx1
namespace Go.Proofs.Ytncdgimmalifjaa.Q
open Go.RowKit Go.Proofs.YtncdgimmalifjaaW.PrintWords Go.Proofs.YtncdgimmalifjaaW.PrintLast Go.Proofs.YtncdgimmalifjaaW.PrintMore Go.Proofs.YtncdgimmalifjaaM Go.Proofs.Ytncdgimmalifjaa.PFnExactAndFamily
attribute [local go_sem] max2_int min2_int max_two min_two max_three min_three max_four min_four
set_option linter.unusedVariables false
set_option linter.unusedSimpArgs false

/-! ### laws_FnExactOrFamily: function 8 -/
def laws_FnExactOrFamily.f (k : Nat) (l0_0 : List Int) (l1_0 : List Int) : Option (Bool) := (laws_szFamily.f l0_0 1048576).bind fun t101 => (if t101 < 0 then (some true) else ((laws_szFamily.f l1_0 t101).bind fun t102 => (if t102 < 0 then (some true) else ((laws_toFamily.f k l0_0).bind fun t103 => ((laws_toFamily.f k l1_0).bind fun t104 => ((spec_OrFamily.f k t103 t104).bind fun bt105 => ((laws_toFamily.f k l0_0).bind fun t107 => ((laws_toFamily.f k l1_0).bind fun t108 => ((impl_OrFamily.f k t107 t108).bind fun bt109 => ((laws_eqFamily.f k bt109.1 bt105.1).bind fun t111 => (if t111 = true then (if (bt109.2 != bt105.2) = true then (some false) else ((laws_toFamily.f k l0_0).bind fun t112 => ((laws_eqFamily.f k t107 t112).bind fun t113 => (if t113 = true then ((laws_toFamily.f k l1_0).bind fun t114 => ((laws_eqFamily.f k t108 t114).bind fun t115 => (if t115 = true then ((laws_markFamily.f k t107 1).bind fun bt116 => ((laws_markFamily.f k t108 bt116.1).bind fun bt118 => (if bt118.1 < 0 then (some false) else ((laws_eqFamily.f k bt109.1 bt105.1).bind fun t120 => (if t120 = true then ((laws_markFamily.f k bt109.1 1).bind fun bt121 => ((laws_heldFamily.f k bt121.2 1).bind fun t123 => (if t123 < 0 then (some false) else (if t123 = bt121.1 then ((laws_toFamily.f k l0_0).bind fun t124 => ((laws_toFamily.f k l1_0).bind fun t125 => ((impl_OrFamily.f k t124 t125).bind fun bt126 => ((laws_eqFamily.f k bt126.1 bt105.1).bind fun t128 => (if t128 = true then (if (bt126.2 != bt105.2) = true then (some false) else ((laws_heldFamily.f k bt121.2 1).bind fun t129 => (if t129 < 0 then (some false) else (if t129 = bt121.1 then (some true) else (some false))))) else (some false)))))) else (some false))))) else (some false)))))) else (some false)))) else (some false))))) else (some false))))))))))))
set_option maxHeartbeats 8000000 in
set_option maxRecDepth 100000 in
theorem laws_FnExactOrFamily.calls (k : Nat) (A0_0 : Option Addr) (c0_0 : Nat) (l0_0 : List Int) (A1_0 : Option Addr) (c1_0 : Nat) (l1_0 : List Int) (r : Bool) (w : World) (hr0_0 : Kd.C (Kd.int .i64) w A0_0 l0_0.length l0_0) (hc0_0 : l0_0.length ≤ c0_0) (hr1_0 : Kd.C (Kd.int .i64) w A1_0 l1_0.length l1_0) (hc1_0 : l1_0.length ≤ c1_0) (h : laws_FnExactOrFamily.f k l0_0 l1_0 = some r) :
    Calls Try.prog 8 #[.agg #[.slice A0_0 l0_0.length c0_0], .agg #[.slice A1_0 l1_0.length c1_0]] w fun e w' => e = .returned (.bool r) ∧ Below w.heap.size w w' := by
  have HR0_0 := Aside0.mk hr0_0
  have HC0_0 := Aside0.mk hc0_0
  clear hr0_0 hc0_0
  have HR1_0 := Aside0.mk hr1_0
  have HC1_0 := Aside0.mk hc1_0
  clear hr1_0 hc1_0
  have hu24 := Try.underlying24
  have hu35 := Try.underlying35
  have HM := Aside0.mk (MS.start w)
  have H : ((laws_szFamily.f l0_0 1048576).bind fun t101 => (if t101 < 0 then (some true) else ((laws_szFamily.f l1_0 t101).bind fun t102 => (if t102 < 0 then (some true) else ((laws_toFamily.f k l0_0).bind fun t103 => ((laws_toFamily.f k l1_0).bind fun t104 => ((spec_OrFamily.f k t103 t104).bind fun bt105 => ((laws_toFamily.f k l0_0).bind fun t107 => ((laws_toFamily.f k l1_0).bind fun t108 => ((impl_OrFamily.f k t107 t108).bind fun bt109 => ((laws_eqFamily.f k bt109.1 bt105.1).bind fun t111 => (if t111 = true then (if (bt109.2 != bt105.2) = true then (some false) else ((laws_toFamily.f k l0_0).bind fun t112 => ((laws_eqFamily.f k t107 t112).bind fun t113 => (if t113 = true then ((laws_toFamily.f k l1_0).bind fun t114 => ((laws_eqFamily.f k t108 t114).bind fun t115 => (if t115 = true then ((laws_markFamily.f k t107 1).bind fun bt116 => ((laws_markFamily.f k t108 bt116.1).bind fun bt118 => (if bt118.1 < 0 then (some false) else ((laws_eqFamily.f k bt109.1 bt105.1).bind fun t120 => (if t120 = true then ((laws_markFamily.f k bt109.1 1).bind fun bt121 => ((laws_heldFamily.f k bt121.2 1).bind fun t123 => (if t123 < 0 then (some false) else (if t123 = bt121.1 then ((laws_toFamily.f k l0_0).bind fun t124 => ((laws_toFamily.f k l1_0).bind fun t125 => ((impl_OrFamily.f k t124 t125).bind fun bt126 => ((laws_eqFamily.f k bt126.1 bt105.1).bind fun t128 => (if t128 = true then (if (bt126.2 != bt105.2) = true then (some false) else ((laws_heldFamily.f k bt121.2 1).bind fun t129 => (if t129 < 0 then (some false) else (if t129 = bt121.1 then (some true) else (some false))))) else (some false)))))) else (some false))))) else (some false)))))) else (some false)))) else (some false))))) else (some false))))))))))))) = some r := h
  clear h
  replace H := Option.bind_eq_some_iff.mp H
  obtain ⟨t101, A1_0, H⟩ := H
  replace H : (if t101 < 0 then (some true) else ((laws_szFamily.f l1_0 t101).bind fun t102 => (if t102 < 0 then (some true) else ((laws_toFamily.f k l0_0).bind fun t103 => ((laws_toFamily.f k l1_0).bind fun t104 => ((spec_OrFamily.f k t103 t104).bind fun bt105 => ((laws_toFamily.f k l0_0).bind fun t107 => ((laws_toFamily.f k l1_0).bind fun t108 => ((impl_OrFamily.f k t107 t108).bind fun bt109 => ((laws_eqFamily.f k bt109.1 bt105.1).bind fun t111 => (if t111 = true then (if (bt109.2 != bt105.2) = true then (some false) else ((laws_toFamily.f k l0_0).bind fun t112 => ((laws_eqFamily.f k t107 t112).bind fun t113 => (if t113 = true then ((laws_toFamily.f k l1_0).bind fun t114 => ((laws_eqFamily.f k t108 t114).bind fun t115 => (if t115 = true then ((laws_markFamily.f k t107 1).bind fun bt116 => ((laws_markFamily.f k t108 bt116.1).bind fun bt118 => (if bt118.1 < 0 then (some false) else ((laws_eqFamily.f k bt109.1 bt105.1).bind fun t120 => (if t120 = true then ((laws_markFamily.f k bt109.1 1).bind fun bt121 => ((laws_heldFamily.f k bt121.2 1).bind fun t123 => (if t123 < 0 then (some false) else (if t123 = bt121.1 then ((laws_toFamily.f k l0_0).bind fun t124 => ((laws_toFamily.f k l1_0).bind fun t125 => ((impl_OrFamily.f k t124 t125).bind fun bt126 => ((laws_eqFamily.f k bt126.1 bt105.1).bind fun t128 => (if t128 = true then (if (bt126.2 != bt105.2) = true then (some false) else ((laws_heldFamily.f k bt121.2 1).bind fun t129 => (if t129 < 0 then (some false) else (if t129 = bt121.1 then (some true) else (some false))))) else (some false)))))) else (some false))))) else (some false)))))) else (some false)))) else (some false))))) else (some false)))))))))))) = some r := H
  have A1_ := Aside0.mk A1_0
  clear A1_0
  have H' := Aside0.mk H
  clear H
  go_enter Try.func8, Try.ntmps8
  go_wp2_with (first | ((with_reducible refine gate_dst (N := 2) rfl ?_); refine box_event ?hg (N := 2) ?hd (cs := #[.slice A0_0 l0_0.length c0_0]) (t := 35) ?hr ?_; (case hd => rfl); (case hg => rfl); (case hr => first | (go_simp; done) | (go_simp; rfl)); intro gb1 hg w2_ hbox hb; have n_ := Aside0.mk (HM.out.addBox hb hbox hg); clear HM; have HM := n_; clear n_; clear hb hbox hg) | ((with_reducible refine gate_dst (N := 3) rfl ?_); refine box_event ?hg (N := 3) ?hd (cs := #[.slice A1_0 l1_0.length c1_0]) (t := 35) ?hr ?_; (case hd => rfl); (case hg => rfl); (case hr => first | (go_simp; done) | (go_simp; rfl)); intro gb2 hg w3_ hbox hb; have n_ := Aside0.mk (HM.out.addBox hb hbox hg); clear HM; have HM := n_; clear n_; clear hb hbox hg; have hcz4_0 : w3_.cell? ⟨gb1, 0, none⟩ = some (.slice A0_0 l0_0.length c0_0) := (blk_cell (HM.out.box 1 rfl) 0).trans rfl; have hfz4_0 := blk_frozen (HM.out.box 1 rfl) 0) | ((with_reducible refine gate_callee (f := 21) rfl ?_); (with_reducible refine gate_dst (N := 19) rfl ?_); refine goesL_ (some 19) rfl rfl Try.func21 (by kernel_rfl) rfl #[.agg #[.slice A0_0 l0_0.length c0_0], .int .i64 1048576] rfl (by (try simp only [List.map_toArray, List.map_cons, List.map_nil]); first | done | rfl | (simp only [List.length_drop, List.length_take]; rfl)) ?_; (with_reducible refine (laws_szFamily.calls _ _ l0_0 1048576 t101 _ ?sd0 ?sd1 A1_.out).mono ?_); (case sd0 => exact (Kd.C_below HR0_0.out HM.out.below)); (case sd1 => exact HC0_0.out); rintro e_ w5_ ⟨rfl, hb⟩; refine ⟨_, rfl, ?_⟩; have n_ := Aside0.mk (HM.out.step hb); clear HM; have HM := n_; clear n_; clear hb; refine id ?roundEnd))
  case roundEnd =>
    have H := H'.out
    clear H'
    by_cases c6_ : t101 < 0
    · rw [if_pos c6_] at H
      have c6_b0 : decide (t101 < 0) = true := decide_eq_true c6_
      clear c6_
      obtain rfl := Option.some.inj H
      go_wp2
      go_ret
      exact ⟨by first | rfl | (simp; done) | (simp [*]; done), HM.out.below⟩
    · rw [if_neg c6_] at H
      have c6_b0 : decide (t101 < 0) = false := decide_eq_false c6_
      clear c6_
      replace H := Option.bind_eq_some_iff.mp H
      obtain ⟨t102, A7_0, H⟩ := H
      replace H : (if t102 < 0 then (some true) else ((laws_toFamily.f k l0_0).bind fun t103 => ((laws_toFamily.f k l1_0).bind fun t104 => ((spec_OrFamily.f k t103 t104).bind fun bt105 => ((laws_toFamily.f k l0_0).bind fun t107 => ((laws_toFamily.f k l1_0).bind fun t108 => ((impl_OrFamily.f k t107 t108).bind fun bt109 => ((laws_eqFamily.f k bt109.1 bt105.1).bind fun t111 => (if t111 = true then (if (bt109.2 != bt105.2) = true then (some false) else ((laws_toFamily.f k l0_0).bind fun t112 => ((laws_eqFamily.f k t107 t112).bind fun t113 => (if t113 = true then ((laws_toFamily.f k l1_0).bind fun t114 => ((laws_eqFamily.f k t108 t114).bind fun t115 => (if t115 = true then ((laws_markFamily.f k t107 1).bind fun bt116 => ((laws_markFamily.f k t108 bt116.1).bind fun bt118 => (if bt118.1 < 0 then (some false) else ((laws_eqFamily.f k bt109.1 bt105.1).bind fun t120 => (if t120 = true then ((laws_markFamily.f k bt109.1 1).bind fun bt121 => ((laws_heldFamily.f k bt121.2 1).bind fun t123 => (if t123 < 0 then (some false) else (if t123 = bt121.1 then ((laws_toFamily.f k l0_0).bind fun t124 => ((laws_toFamily.f k l1_0).bind fun t125 => ((impl_OrFamily.f k t124 t125).bind fun bt126 => ((laws_eqFamily.f k bt126.1 bt105.1).bind fun t128 => (if t128 = true then (if (bt126.2 != bt105.2) = true then (some false) else ((laws_heldFamily.f k bt121.2 1).bind fun t129 => (if t129 < 0 then (some false) else (if t129 = bt121.1 then (some true) else (some false))))) else (some false)))))) else (some false))))) else (some false)))))) else (some false)))) else (some false))))) else (some false)))))))))) = some r := H
      have A7_ := Aside0.mk A7_0
      clear A7_0
      have H' := Aside0.mk H
      clear H
      have hcz8_0 : w5_.cell? ⟨gb2, 0, none⟩ = some (.slice A1_0 l1_0.length c1_0) := (blk_cell (HM.out.box 0 rfl) 0).trans rfl
      have hfz8_0 := blk_frozen (HM.out.box 0 rfl) 0
      go_wp2_with (first | ((with_reducible refine gate_callee (f := 21) rfl ?_); (with_reducible refine gate_dst (N := 24) rfl ?_); refine goesL_ (some 24) rfl rfl Try.func21 (by kernel_rfl) rfl #[.agg #[.slice A1_0 l1_0.length c1_0], .int .i64 t101] rfl (by (try simp only [List.map_toArray, List.map_cons, List.map_nil]); first | done | rfl | (simp only [List.length_drop, List.length_take]; rfl)) ?_; (with_reducible refine (laws_szFamily.calls _ _ l1_0 t101 t102 _ ?sd0 ?sd1 A7_.out).mono ?_); (case sd0 => exact (Kd.C_below HR1_0.out HM.out.below)); (case sd1 => exact HC1_0.out); rintro e_ w9_ ⟨rfl, hb⟩; refine ⟨_, rfl, ?_⟩; have n_ := Aside0.mk (HM.out.step hb); clear HM; have HM := n_; clear n_; clear hb; refine id ?roundEnd))
      case roundEnd =>
        have H := H'.out
        clear H'
        by_cases c10_ : t102 < 0
        · rw [if_pos c10_] at H
          have c10_b0 : decide (t102 < 0) = true := decide_eq_true c10_
          clear c10_
          obtain rfl := Option.some.inj H
          go_wp2
          go_ret
          exact ⟨by first | rfl | (simp; done) | (simp [*]; done), HM.out.below⟩
        · rw [if_neg c10_] at H
          have c10_b0 : decide (t102 < 0) = false := decide_eq_false c10_
          clear c10_
          replace H := Option.bind_eq_some_iff.mp H
          obtain ⟨t103, A11_0, H⟩ := H
          replace H : ((laws_toFamily.f k l1_0).bind fun t104 => ((spec_OrFamily.f k t103 t104).bind fun bt105 => ((laws_toFamily.f k l0_0).bind fun t107 => ((laws_toFamily.f k l1_0).bind fun t108 => ((impl_OrFamily.f k t107 t108).bind fun bt109 => ((laws_eqFamily.f k bt109.1 bt105.1).bind fun t111 => (if t111 = true then (if (bt109.2 != bt105.2) = true then (some false) else ((laws_toFamily.f k l0_0).bind fun t112 => ((laws_eqFamily.f k t107 t112).bind fun t113 => (if t113 = true then ((laws_toFamily.f k l1_0).bind fun t114 => ((laws_eqFamily.f k t108 t114).bind fun t115 => (if t115 = true then ((laws_markFamily.f k t107 1).bind fun bt116 => ((laws_markFamily.f k t108 bt116.1).bind fun bt118 => (if bt118.1 < 0 then (some false) else ((laws_eqFamily.f k bt109.1 bt105.1).bind fun t120 => (if t120 = true then ((laws_markFamily.f k bt109.1 1).bind fun bt121 => ((laws_heldFamily.f k bt121.2 1).bind fun t123 => (if t123 < 0 then (some false) else (if t123 = bt121.1 then ((laws_toFamily.f k l0_0).bind fun t124 => ((laws_toFamily.f k l1_0).bind fun t125 => ((impl_OrFamily.f k t124 t125).bind fun bt126 => ((laws_eqFamily.f k bt126.1 bt105.1).bind fun t128 => (if t128 = true then (if (bt126.2 != bt105.2) = true then (some false) else ((laws_heldFamily.f k bt121.2 1).bind fun t129 => (if t129 < 0 then (some false) else (if t129 = bt121.1 then (some true) else (some false))))) else (some false)))))) else (some false))))) else (some false)))))) else (some false)))) else (some false))))) else (some false)))))))) = some r := H
          have A11_ := Aside0.mk A11_0
          clear A11_0
          replace H := Option.bind_eq_some_iff.mp H
          obtain ⟨t104, A12_0, H⟩ := H
          replace H : ((spec_OrFamily.f k t103 t104).bind fun bt105 => ((laws_toFamily.f k l0_0).bind fun t107 => ((laws_toFamily.f k l1_0).bind fun t108 => ((impl_OrFamily.f k t107 t108).bind fun bt109 => ((laws_eqFamily.f k bt109.1 bt105.1).bind fun t111 => (if t111 = true then (if (bt109.2 != bt105.2) = true then (some false) else ((laws_toFamily.f k l0_0).bind fun t112 => ((laws_eqFamily.f k t107 t112).bind fun t113 => (if t113 = true then ((laws_toFamily.f k l1_0).bind fun t114 => ((laws_eqFamily.f k t108 t114).bind fun t115 => (if t115 = true then ((laws_markFamily.f k t107 1).bind fun bt116 => ((laws_markFamily.f k t108 bt116.1).bind fun bt118 => (if bt118.1 < 0 then (some false) else ((laws_eqFamily.f k bt109.1 bt105.1).bind fun t120 => (if t120 = true then ((laws_markFamily.f k bt109.1 1).bind fun bt121 => ((laws_heldFamily.f k bt121.2 1).bind fun t123 => (if t123 < 0 then (some false) else (if t123 = bt121.1 then ((laws_toFamily.f k l0_0).bind fun t124 => ((laws_toFamily.f k l1_0).bind fun t125 => ((impl_OrFamily.f k t124 t125).bind fun bt126 => ((laws_eqFamily.f k bt126.1 bt105.1).bind fun t128 => (if t128 = true then (if (bt126.2 != bt105.2) = true then (some false) else ((laws_heldFamily.f k bt121.2 1).bind fun t129 => (if t129 < 0 then (some false) else (if t129 = bt121.1 then (some true) else (some false))))) else (some false)))))) else (some false))))) else (some false)))))) else (some false)))) else (some false))))) else (some false))))))) = some r := H
          have A12_ := Aside0.mk A12_0
          clear A12_0
          replace H := Option.bind_eq_some_iff.mp H
          obtain ⟨⟨t105, t106⟩, A13_0, H⟩ := H
          replace H : ((laws_toFamily.f k l0_0).bind fun t107 => ((laws_toFamily.f k l1_0).bind fun t108 => ((impl_OrFamily.f k t107 t108).bind fun bt109 => ((laws_eqFamily.f k bt109.1 t105).bind fun t111 => (if t111 = true then (if (bt109.2 != t106) = true then (some false) else ((laws_toFamily.f k l0_0).bind fun t112 => ((laws_eqFamily.f k t107 t112).bind fun t113 => (if t113 = true then ((laws_toFamily.f k l1_0).bind fun t114 => ((laws_eqFamily.f k t108 t114).bind fun t115 => (if t115 = true then ((laws_markFamily.f k t107 1).bind fun bt116 => ((laws_markFamily.f k t108 bt116.1).bind fun bt118 => (if bt118.1 < 0 then (some false) else ((laws_eqFamily.f k bt109.1 t105).bind fun t120 => (if t120 = true then ((laws_markFamily.f k bt109.1 1).bind fun bt121 => ((laws_heldFamily.f k bt121.2 1).bind fun t123 => (if t123 < 0 then (some false) else (if t123 = bt121.1 then ((laws_toFamily.f k l0_0).bind fun t124 => ((laws_toFamily.f k l1_0).bind fun t125 => ((impl_OrFamily.f k t124 t125).bind fun bt126 => ((laws_eqFamily.f k bt126.1 t105).bind fun t128 => (if t128 = true then (if (bt126.2 != t106) = true then (some false) else ((laws_heldFamily.f k bt121.2 1).bind fun t129 => (if t129 < 0 then (some false) else (if t129 = bt121.1 then (some true) else (some false))))) else (some false)))))) else (some false))))) else (some false)))))) else (some false)))) else (some false))))) else (some false)))))) = some r := H
          have A13_ := Aside0.mk A13_0
          clear A13_0
          have H' := Aside0.mk H
          clear H
          go_wp2
          have n_ := Aside0.mk (HM.out.step (below_drew1 (Below.refl w9_.heap.size w9_)))
          clear HM
          have HM := n_
          clear n_
          refine start_ (n := 11) (S := fun w' => (w'.cell? ⟨gb1, 0, none⟩ = some (.slice A0_0 l0_0.length c0_0)) ∧ (w'.cell? ⟨gb2, 0, none⟩ = some (.slice A1_0 l1_0.length c1_0))) (ds := [9]) #[false, false, false, false, false, false, false, false, false, false, false] (by kernel_rfl) rfl rfl (⟨(blk_cell (HM.out.box 1 rfl) 0).trans rfl, (blk_cell (HM.out.box 0 rfl) 0).trans rfl⟩) (fun hHeld => ?_)
          generalize w9_.drew = w14_ at HM hHeld ⊢
          refine take_ (i := 0) (N := some 28) (v := ?_) (a' := ?_) #[true, false, false, false, false, false, false, false, false, false, false] rfl rfl (by kernel_rfl) (fun _ _ _ h => h) (Or.inl ⟨by rfl, ?_⟩) hHeld ?_ ?_
          rotate_left
          · intro w' s0
            obtain ⟨s0_, s1_⟩ := s0
            go_simp
            first | with_reducible rfl | (simp [Instr.field, asAgg, Go.part, run_underlying hu24, run_underlying hu35]; rfl) | rfl
          rotate_left
          · simp only [Act.put, List.setIfInBounds_toArray, List.set_cons_zero, List.set_cons_succ, i64_w, i32_w]
            rfl
          refine take_ (i := 2) (N := some 30) (v := ?_) (a' := ?_) #[true, false, true, false, false, false, false, false, false, false, false] rfl rfl (by kernel_rfl) (fun _ _ _ h => h) (Or.inl ⟨by rfl, ?_⟩) hHeld ?_ ?_
          rotate_left
          · intro w' s0
            obtain ⟨s0_, s1_⟩ := s0
            go_simp
            first | with_reducible rfl | (simp [Instr.field, asAgg, Go.part, run_underlying hu24, run_underlying hu35]; rfl) | rfl
          rotate_left
          · simp only [Act.put, List.setIfInBounds_toArray, List.set_cons_zero, List.set_cons_succ, i64_w, i32_w]
            rfl
          refine join_ (σ := (Option Addr) × (Nat) × (Option Addr) × (Nat) × (Option Addr) × (Nat) × (Nat)) 2 #[true, true, true, true, true, true, true, true, true, false, false] (fun s_ => [(29, .agg #[.slice s_.1 t103.length s_.2.1]), (31, .agg #[.slice s_.2.2.1 t104.length s_.2.2.2.1]), (32, .tuple #[.agg #[.slice s_.2.2.2.2.1 t105.length s_.2.2.2.2.2.1], .bool t106]), (27, .tuple #[.agg #[.slice s_.2.2.2.2.1 t105.length s_.2.2.2.2.2.1], .bool t106]), (33, .agg #[.slice s_.2.2.2.2.1 t105.length s_.2.2.2.2.2.1]), (34, .bool t106), (6, .pointer (some ⟨s_.2.2.2.2.2.2, 0, none⟩))]) (fun s_ w' => MS w w' [.box s_.2.2.2.2.2.2 24 #[.slice none 0 0], .row 3 (.slice s_.2.2.2.2.1 t105.length s_.2.2.2.2.2.1) (encs (Value.int .i64) t105), .row 3 (.slice s_.2.2.1 t104.length s_.2.2.2.1) (encs (Value.int .i64) t104), .row 3 (.slice s_.1 t103.length s_.2.1) (encs (Value.int .i64) t103), .box gb2 35 #[.slice A1_0 l1_0.length c1_0], .box gb1 35 #[.slice A0_0 l0_0.length c0_0]]) ?_ ?_
          rotate_left
          · intro hC
            refine two_ (i := 1) (j := 8) (Ni := some 29) (Nj := some 6) #[true, true, true, false, false, false, false, false, false, false, false] #[true, false, true, false, false, false, false, false, true, false, false] rfl rfl rfl rfl (by kernel_rfl) (by decide) (by decide) (fun K hK => ?_) (fun K hK => ?_)
            · refine goes_ Try.func23 (by kernel_rfl) rfl #[.agg #[.slice A0_0 l0_0.length c0_0]] (by rfl) rfl rfl (by (try simp only [List.map_toArray, List.map_cons, List.map_nil]); first | done | rfl | (simp only [List.length_drop, List.length_take]; rfl)) ?_
              with_reducible refine (laws_toFamily.calls k _ _ l0_0 t103 _ ?sd0 ?sd1 A11_.out).mono ?_
              (case sd0 => exact (Kd.C_below HR0_0.out HM.out.below))
              (case sd1 => exact HC0_0.out)
              rintro e_ w15_ ⟨vv0_, rfl, ho0_, hb⟩
              refine ⟨_, rfl, ?_⟩
              obtain ⟨Ao3_0, co3_0, ev_⟩ := Kd.R_slice ho0_
              subst ev_
              have n_ := Aside0.mk (HM.out.addR hb ho0_)
              clear HM
              have HM := n_
              clear n_
              clear hb ho0_
              refine hK.out _ _ (⟨(blk_cell (HM.out.box 2 rfl) 0).trans rfl, (blk_cell (HM.out.box 1 rfl) 0).trans rfl⟩) (fun hHeld => ?_)
              clear hK K
              refine norm_ (a' := ?_) ?_ ?_
              rotate_left
              · show Act.put _ (some 29) _ = _
                simp only [Act.put, List.setIfInBounds_toArray, List.set_cons_zero, List.set_cons_succ, i64_w, i32_w]
                rfl
              refine two_ (i := 3) (j := 8) (Ni := some 31) (Nj := some 6) #[true, true, true, true, false, false, false, false, false, false, false] #[true, true, true, false, false, false, false, false, true, false, false] rfl rfl rfl rfl (by kernel_rfl) (by decide) (by decide) (fun K hK => ?_) (fun K hK => ?_)
              · refine goes_ Try.func23 (by kernel_rfl) rfl #[.agg #[.slice A1_0 l1_0.length c1_0]] (by rfl) rfl rfl (by (try simp only [List.map_toArray, List.map_cons, List.map_nil]); first | done | rfl | (simp only [List.length_drop, List.length_take]; rfl)) ?_
                with_reducible refine (laws_toFamily.calls k _ _ l1_0 t104 _ ?sd0 ?sd1 A12_.out).mono ?_
                (case sd0 => exact (Kd.C_below HR1_0.out HM.out.below))
                (case sd1 => exact HC1_0.out)
                rintro e_ w16_ ⟨vv0_, rfl, ho0_, hb⟩
                refine ⟨_, rfl, ?_⟩
                obtain ⟨Ao4_0, co4_0, ev_⟩ := Kd.R_slice ho0_
                subst ev_
                have n_ := Aside0.mk (HM.out.addR hb ho0_)
                clear HM
                have HM := n_
                clear n_
                clear hb ho0_
                refine hK.out _ _ (⟨(blk_cell (HM.out.box 3 rfl) 0).trans rfl, (blk_cell (HM.out.box 2 rfl) 0).trans rfl⟩) (fun hHeld => ?_)
                clear hK K
                refine norm_ (a' := ?_) ?_ ?_
                rotate_left
                · show Act.put _ (some 31) _ = _
                  simp only [Act.put, List.setIfInBounds_toArray, List.set_cons_zero, List.set_cons_succ, i64_w, i32_w]
                  rfl
                refine two_ (i := 4) (j := 8) (Ni := some 32) (Nj := some 6) #[true, true, true, true, true, false, false, false, false, false, false] #[true, true, true, true, false, false, false, false, true, false, false] rfl rfl rfl rfl (by kernel_rfl) (by decide) (by decide) (fun K hK => ?_) (fun K hK => ?_)
                · refine goes_ Try.func29 (by kernel_rfl) rfl #[.agg #[.slice Ao3_0 t103.length co3_0], .agg #[.slice Ao4_0 t104.length co4_0]] (by rfl) rfl rfl (by (try simp only [List.map_toArray, List.map_cons, List.map_nil]); first | done | rfl | (simp only [List.length_drop, List.length_take]; rfl)) ?_
                  with_reducible refine (spec_OrFamily.calls k _ _ t103 _ _ t104 t105 t106 _ ?sd0 ?sd1 ?sd2 ?sd3 A13_.out).mono ?_
                  (case sd0 => exact (Kd.R_reads' (HM.out.R (h1 := fun _ => rfl) 1 rfl)).2.2)
                  (case sd1 => exact (Kd.R_reads' (HM.out.R (h1 := fun _ => rfl) 1 rfl)).2.1)
                  (case sd2 => exact (Kd.R_reads' (HM.out.R (h1 := fun _ => rfl) 0 rfl)).2.2)
                  (case sd3 => exact (Kd.R_reads' (HM.out.R (h1 := fun _ => rfl) 0 rfl)).2.1)
                  rintro e_ w17_ ⟨vv0_, rfl, ho0_, hb⟩
                  refine ⟨_, rfl, ?_⟩
                  obtain ⟨Ao5_0, co5_0, ev_⟩ := Kd.R_slice ho0_
                  subst ev_
                  have n_ := Aside0.mk (HM.out.addR hb ho0_)
                  clear HM
                  have HM := n_
                  clear n_
                  clear hb ho0_
                  refine hK.out _ _ (⟨(blk_cell (HM.out.box 4 rfl) 0).trans rfl, (blk_cell (HM.out.box 3 rfl) 0).trans rfl⟩) (fun hHeld => ?_)
                  clear hK K
                  refine norm_ (a' := ?_) ?_ ?_
                  rotate_left
                  · show Act.put _ (some 32) _ = _
                    simp only [Act.put, List.setIfInBounds_toArray, List.set_cons_zero, List.set_cons_succ, i64_w, i32_w]
                    rfl
                  refine pure_ (i := 5) (N := some 27) (v := ?_) (a' := ?_) #[true, true, true, true, true, true, false, false, false, false, false] rfl rfl (by kernel_rfl) (fun _ _ _ h => h) (Or.inl ⟨by rfl, ?_⟩) ?_ ?_
                  rotate_left
                  · intro w'
                    go_simp
                    first | with_reducible rfl | (simp [Instr.field, asAgg, Go.part, run_underlying hu24, run_underlying hu35]; rfl) | rfl
                  rotate_left
                  · simp only [Act.put, List.setIfInBounds_toArray, List.set_cons_zero, List.set_cons_succ, i64_w, i32_w]
                    rfl
                  refine pure_ (i := 6) (N := some 33) (v := ?_) (a' := ?_) #[true, true, true, true, true, true, true, false, false, false, false] rfl rfl (by kernel_rfl) (fun _ _ _ h => h) (Or.inl ⟨by rfl, ?_⟩) ?_ ?_
                  rotate_left
                  · intro w'
                    go_simp
                    first | with_reducible rfl | (simp [Instr.field, asAgg, Go.part, run_underlying hu24, run_underlying hu35]; rfl) | rfl
                  rotate_left
                  · simp only [Act.put, List.setIfInBounds_toArray, List.set_cons_zero, List.set_cons_succ, i64_w, i32_w]
                    rfl
                  refine pure_ (i := 7) (N := some 34) (v := ?_) (a' := ?_) #[true, true, true, true, true, true, true, true, false, false, false] rfl rfl (by kernel_rfl) (fun _ _ _ h => h) (Or.inl ⟨by rfl, ?_⟩) ?_ ?_
                  rotate_left
                  · intro w'
                    go_simp
                    first | with_reducible rfl | (simp [Instr.field, asAgg, Go.part, run_underlying hu24, run_underlying hu35]; rfl) | rfl
                  rotate_left
                  · simp only [Act.put, List.setIfInBounds_toArray, List.set_cons_zero, List.set_cons_succ, i64_w, i32_w]
                    rfl
                  refine one_ (i := 8) (N := some 6) #[true, true, true, true, true, true, true, true, true, false, false] rfl rfl (by kernel_rfl) (by decide) (fun K hK => ?_)
                  refine value_ (w1 := w17_.alloc (.cells #[.slice none 0 0] 24)) (v := .pointer (some ⟨w17_.heap.size, 0, none⟩)) (by rfl) rfl ?_ ?_
                  · first | (go_simp; done) | (go_simp; rfl)
                  obtain ⟨gb6, hgb_⟩ : ∃ g_ : Nat, g_ = w17_.heap.size := ⟨_, rfl⟩
                  rw [← hgb_]
                  obtain ⟨w18_, hw_⟩ : ∃ w_ : World, w_ = w17_.alloc (.cells #[.slice none 0 0] 24) := ⟨_, rfl⟩
                  rw [← hw_]
                  have hbx_ : w18_.heap[gb6]? = some (.cells #[.slice none 0 0] 24 (0, 0)) := by rw [hw_, hgb_]; exact blk_new _ _
                  have hb : Below w17_.heap.size w17_ w18_ := by rw [hw_]; exact below_alloc (Below.refl _ _) _
                  have n_ := Aside0.mk (HM.out.addBox hb hbx_ hgb_)
                  clear HM
                  have HM := n_
                  clear n_
                  clear hb hbx_ hgb_ hw_
                  refine hK.out _ _ (⟨(blk_cell (HM.out.box 5 rfl) 0).trans rfl, (blk_cell (HM.out.box 4 rfl) 0).trans rfl⟩) (fun hHeld => ?_)
                  clear hK K
                  refine norm_ (a' := ?_) ?_ ?_
                  rotate_left
                  · show Act.put _ (some 6) _ = _
                    simp only [Act.put, List.setIfInBounds_toArray, List.set_cons_zero, List.set_cons_succ, i64_w, i32_w]
                    rfl
                  have h_ := hC (Ao3_0, co3_0, Ao4_0, co4_0, Ao5_0, co5_0, gb6) w18_ (HM.out)
                  simp only [putAll, Act.put, List.setIfInBounds_toArray, List.set_cons_zero, List.set_cons_succ] at h_
                  exact h_
                · refine value_ (w1 := w16_.alloc (.cells #[.slice none 0 0] 24)) (v := .pointer (some ⟨w16_.heap.size, 0, none⟩)) (by rfl) rfl ?_ ?_
                  · first | (go_simp; done) | (go_simp; rfl)
                  obtain ⟨gb6, hgb_⟩ : ∃ g_ : Nat, g_ = w16_.heap.size := ⟨_, rfl⟩
                  rw [← hgb_]
                  obtain ⟨w19_, hw_⟩ : ∃ w_ : World, w_ = w16_.alloc (.cells #[.slice none 0 0] 24) := ⟨_, rfl⟩
                  rw [← hw_]
                  have hbx_ : w19_.heap[gb6]? = some (.cells #[.slice none 0 0] 24 (0, 0)) := by rw [hw_, hgb_]; exact blk_new _ _
                  have hb : Below w16_.heap.size w16_ w19_ := by rw [hw_]; exact below_alloc (Below.refl _ _) _
                  have n_ := Aside0.mk (HM.out.addBox hb hbx_ hgb_)
                  clear HM
                  have HM := n_
                  clear n_
                  clear hb hbx_ hgb_ hw_
                  refine hK.out _ _ (⟨(blk_cell (HM.out.box 4 rfl) 0).trans rfl, (blk_cell (HM.out.box 3 rfl) 0).trans rfl⟩) (fun hHeld => ?_)
                  clear hK K
                  refine norm_ (a' := ?_) ?_ ?_
                  rotate_left
                  · show Act.put _ (some 6) _ = _
                    simp only [Act.put, List.setIfInBounds_toArray, List.set_cons_zero, List.set_cons_succ, i64_w, i32_w]
                    rfl
                  refine one_ (i := 4) (N := some 32) #[true, true, true, true, true, false, false, false, true, false, false] rfl rfl (by kernel_rfl) (by decide) (fun K hK => ?_)
                  refine goes_ Try.func29 (by kernel_rfl) rfl #[.agg #[.slice Ao3_0 t103.length co3_0], .agg #[.slice Ao4_0 t104.length co4_0]] (by rfl) rfl rfl (by (try simp only [List.map_toArray, List.map_cons, List.map_nil]); first | done | rfl | (simp only [List.length_drop, List.length_take]; rfl)) ?_
                  with_reducible refine (spec_OrFamily.calls k _ _ t103 _ _ t104 t105 t106 _ ?sd0 ?sd1 ?sd2 ?sd3 A13_.out).mono ?_
                  (case sd0 => exact (Kd.R_reads' (HM.out.R (h1 := fun _ => rfl) 2 rfl)).2.2)
                  (case sd1 => exact (Kd.R_reads' (HM.out.R (h1 := fun _ => rfl) 2 rfl)).2.1)
                  (case sd2 => exact (Kd.R_reads' (HM.out.R (h1 := fun _ => rfl) 1 rfl)).2.2)
                  (case sd3 => exact (Kd.R_reads' (HM.out.R (h1 := fun _ => rfl) 1 rfl)).2.1)
                  rintro e_ w20_ ⟨vv0_, rfl, ho0_, hb⟩
                  refine ⟨_, rfl, ?_⟩
                  obtain ⟨Ao5_0, co5_0, ev_⟩ := Kd.R_slice ho0_
                  subst ev_
                  have n_ := Aside0.mk (HM.out.addR hb ho0_)
                  clear HM
                  have HM := n_
                  clear n_
                  clear hb ho0_
                  refine hK.out _ _ (⟨(blk_cell (HM.out.box 5 rfl) 0).trans rfl, (blk_cell (HM.out.box 4 rfl) 0).trans rfl⟩) (fun hHeld => ?_)
                  clear hK K
                  refine norm_ (a' := ?_) ?_ ?_
                  rotate_left
                  · show Act.put _ (some 32) _ = _
                    simp only [Act.put, List.setIfInBounds_toArray, List.set_cons_zero, List.set_cons_succ, i64_w, i32_w]
                    rfl
                  refine pure_ (i := 5) (N := some 27) (v := ?_) (a' := ?_) #[true, true, true, true, true, true, false, false, true, false, false] rfl rfl (by kernel_rfl) (fun _ _ _ h => h) (Or.inl ⟨by rfl, ?_⟩) ?_ ?_
                  rotate_left
                  · intro w'
                    go_simp
                    first | with_reducible rfl | (simp [Instr.field, asAgg, Go.part, run_underlying hu24, run_underlying hu35]; rfl) | rfl
                  rotate_left
                  · simp only [Act.put, List.setIfInBounds_toArray, List.set_cons_zero, List.set_cons_succ, i64_w, i32_w]
                    rfl
                  refine pure_ (i := 6) (N := some 33) (v := ?_) (a' := ?_) #[true, true, true, true, true, true, true, false, true, false, false] rfl rfl (by kernel_rfl) (fun _ _ _ h => h) (Or.inl ⟨by rfl, ?_⟩) ?_ ?_
                  rotate_left
                  · intro w'
                    go_simp
                    first | with_reducible rfl | (simp [Instr.field, asAgg, Go.part, run_underlying hu24, run_underlying hu35]; rfl) | rfl
                  rotate_left
                  · simp only [Act.put, List.setIfInBounds_toArray, List.set_cons_zero, List.set_cons_succ, i64_w, i32_w]
                    rfl
                  refine pure_ (i := 7) (N := some 34) (v := ?_) (a' := ?_) #[true, true, true, true, true, true, true, true, true, false, false] rfl rfl (by kernel_rfl) (fun _ _ _ h => h) (Or.inl ⟨by rfl, ?_⟩) ?_ ?_
                  rotate_left
                  · intro w'
                    go_simp
                    first | with_reducible rfl | (simp [Instr.field, asAgg, Go.part, run_underlying hu24, run_underlying hu35]; rfl) | rfl
                  rotate_left
                  · simp only [Act.put, List.setIfInBounds_toArray, List.set_cons_zero, List.set_cons_succ, i64_w, i32_w]
                    rfl
                  have h_ := hC (Ao3_0, co3_0, Ao4_0, co4_0, Ao5_0, co5_0, gb6) w20_ (((HM.out.front 0 rfl).front 1 rfl))
                  simp only [putAll, Act.put, List.setIfInBounds_toArray, List.set_cons_zero, List.set_cons_succ] at h_
                  exact h_
              · refine value_ (w1 := w15_.alloc (.cells #[.slice none 0 0] 24)) (v := .pointer (some ⟨w15_.heap.size, 0, none⟩)) (by rfl) rfl ?_ ?_
                · first | (go_simp; done) | (go_simp; rfl)
                obtain ⟨gb6, hgb_⟩ : ∃ g_ : Nat, g_ = w15_.heap.size := ⟨_, rfl⟩
                rw [← hgb_]
                obtain ⟨w21_, hw_⟩ : ∃ w_ : World, w_ = w15_.alloc (.cells #[.slice none 0 0] 24) := ⟨_, rfl⟩
                rw [← hw_]
                have hbx_ : w21_.heap[gb6]? = some (.cells #[.slice none 0 0] 24 (0, 0)) := by rw [hw_, hgb_]; exact blk_new _ _
                have hb : Below w15_.heap.size w15_ w21_ := by rw [hw_]; exact below_alloc (Below.refl _ _) _
                have n_ := Aside0.mk (HM.out.addBox hb hbx_ hgb_)
                clear HM
                have HM := n_
                clear n_
                clear hb hbx_ hgb_ hw_
                refine hK.out _ _ (⟨(blk_cell (HM.out.box 3 rfl) 0).trans rfl, (blk_cell (HM.out.box 2 rfl) 0).trans rfl⟩) (fun hHeld => ?_)
                clear hK K
                refine norm_ (a' := ?_) ?_ ?_
                rotate_left
                · show Act.put _ (some 6) _ = _
                  simp only [Act.put, List.setIfInBounds_toArray, List.set_cons_zero, List.set_cons_succ, i64_w, i32_w]
                  rfl
                refine one_ (i := 3) (N := some 31) #[true, true, true, true, false, false, false, false, true, false, false] rfl rfl (by kernel_rfl) (by decide) (fun K hK => ?_)
                refine goes_ Try.func23 (by kernel_rfl) rfl #[.agg #[.slice A1_0 l1_0.length c1_0]] (by rfl) rfl rfl (by (try simp only [List.map_toArray, List.map_cons, List.map_nil]); first | done | rfl | (simp only [List.length_drop, List.length_take]; rfl)) ?_
                with_reducible refine (laws_toFamily.calls k _ _ l1_0 t104 _ ?sd0 ?sd1 A12_.out).mono ?_
                (case sd0 => exact (Kd.C_below HR1_0.out HM.out.below))
                (case sd1 => exact HC1_0.out)
                rintro e_ w22_ ⟨vv0_, rfl, ho0_, hb⟩
                refine ⟨_, rfl, ?_⟩
                obtain ⟨Ao4_0, co4_0, ev_⟩ := Kd.R_slice ho0_
                subst ev_
                have n_ := Aside0.mk (HM.out.addR hb ho0_)
                clear HM
                have HM := n_
                clear n_
                clear hb ho0_
                refine hK.out _ _ (⟨(blk_cell (HM.out.box 4 rfl) 0).trans rfl, (blk_cell (HM.out.box 3 rfl) 0).trans rfl⟩) (fun hHeld => ?_)
                clear hK K
                refine norm_ (a' := ?_) ?_ ?_
                rotate_left
                · show Act.put _ (some 31) _ = _
                  simp only [Act.put, List.setIfInBounds_toArray, List.set_cons_zero, List.set_cons_succ, i64_w, i32_w]
                  rfl
                refine one_ (i := 4) (N := some 32) #[true, true, true, true, true, false, false, false, true, false, false] rfl rfl (by kernel_rfl) (by decide) (fun K hK => ?_)
                refine goes_ Try.func29 (by kernel_rfl) rfl #[.agg #[.slice Ao3_0 t103.length co3_0], .agg #[.slice Ao4_0 t104.length co4_0]] (by rfl) rfl rfl (by (try simp only [List.map_toArray, List.map_cons, List.map_nil]); first | done | rfl | (simp only [List.length_drop, List.length_take]; rfl)) ?_
                with_reducible refine (spec_OrFamily.calls k _ _ t103 _ _ t104 t105 t106 _ ?sd0 ?sd1 ?sd2 ?sd3 A13_.out).mono ?_
                (case sd0 => exact (Kd.R_reads' (HM.out.R (h1 := fun _ => rfl) 2 rfl)).2.2)
                (case sd1 => exact (Kd.R_reads' (HM.out.R (h1 := fun _ => rfl) 2 rfl)).2.1)
                (case sd2 => exact (Kd.R_reads' (HM.out.R (h1 := fun _ => rfl) 0 rfl)).2.2)
                (case sd3 => exact (Kd.R_reads' (HM.out.R (h1 := fun _ => rfl) 0 rfl)).2.1)
                rintro e_ w23_ ⟨vv0_, rfl, ho0_, hb⟩
                refine ⟨_, rfl, ?_⟩
                obtain ⟨Ao5_0, co5_0, ev_⟩ := Kd.R_slice ho0_
                subst ev_
                have n_ := Aside0.mk (HM.out.addR hb ho0_)
                clear HM
                have HM := n_
                clear n_
                clear hb ho0_
                refine hK.out _ _ (⟨(blk_cell (HM.out.box 5 rfl) 0).trans rfl, (blk_cell (HM.out.box 4 rfl) 0).trans rfl⟩) (fun hHeld => ?_)
                clear hK K
                refine norm_ (a' := ?_) ?_ ?_
                rotate_left
                · show Act.put _ (some 32) _ = _
                  simp only [Act.put, List.setIfInBounds_toArray, List.set_cons_zero, List.set_cons_succ, i64_w, i32_w]
                  rfl
                refine pure_ (i := 5) (N := some 27) (v := ?_) (a' := ?_) #[true, true, true, true, true, true, false, false, true, false, false] rfl rfl (by kernel_rfl) (fun _ _ _ h => h) (Or.inl ⟨by rfl, ?_⟩) ?_ ?_
                rotate_left
                · intro w'
                  go_simp
                  first | with_reducible rfl | (simp [Instr.field, asAgg, Go.part, run_underlying hu24, run_underlying hu35]; rfl) | rfl
                rotate_left
                · simp only [Act.put, List.setIfInBounds_toArray, List.set_cons_zero, List.set_cons_succ, i64_w, i32_w]
                  rfl
                refine pure_ (i := 6) (N := some 33) (v := ?_) (a' := ?_) #[true, true, true, true, true, true, true, false, true, false, false] rfl rfl (by kernel_rfl) (fun _ _ _ h => h) (Or.inl ⟨by rfl, ?_⟩) ?_ ?_
                rotate_left
                · intro w'
                  go_simp
                  first | with_reducible rfl | (simp [Instr.field, asAgg, Go.part, run_underlying hu24, run_underlying hu35]; rfl) | rfl
                rotate_left
                · simp only [Act.put, List.setIfInBounds_toArray, List.set_cons_zero, List.set_cons_succ, i64_w, i32_w]
                  rfl
                refine pure_ (i := 7) (N := some 34) (v := ?_) (a' := ?_) #[true, true, true, true, true, true, true, true, true, false, false] rfl rfl (by kernel_rfl) (fun _ _ _ h => h) (Or.inl ⟨by rfl, ?_⟩) ?_ ?_
                rotate_left
                · intro w'
                  go_simp
                  first | with_reducible rfl | (simp [Instr.field, asAgg, Go.part, run_underlying hu24, run_underlying hu35]; rfl) | rfl
                rotate_left
                · simp only [Act.put, List.setIfInBounds_toArray, List.set_cons_zero, List.set_cons_succ, i64_w, i32_w]
                  rfl
                have h_ := hC (Ao3_0, co3_0, Ao4_0, co4_0, Ao5_0, co5_0, gb6) w23_ ((((HM.out.front 1 rfl).front 1 rfl).front 2 rfl))
                simp only [putAll, Act.put, List.setIfInBounds_toArray, List.set_cons_zero, List.set_cons_succ] at h_
                exact h_
            · refine value_ (w1 := w14_.alloc (.cells #[.slice none 0 0] 24)) (v := .pointer (some ⟨w14_.heap.size, 0, none⟩)) (by rfl) rfl ?_ ?_
              · first | (go_simp; done) | (go_simp; rfl)
              obtain ⟨gb6, hgb_⟩ : ∃ g_ : Nat, g_ = w14_.heap.size := ⟨_, rfl⟩
              rw [← hgb_]
              obtain ⟨w24_, hw_⟩ : ∃ w_ : World, w_ = w14_.alloc (.cells #[.slice none 0 0] 24) := ⟨_, rfl⟩
              rw [← hw_]
              have hbx_ : w24_.heap[gb6]? = some (.cells #[.slice none 0 0] 24 (0, 0)) := by rw [hw_, hgb_]; exact blk_new _ _
              have hb : Below w14_.heap.size w14_ w24_ := by rw [hw_]; exact below_alloc (Below.refl _ _) _
              have n_ := Aside0.mk (HM.out.addBox hb hbx_ hgb_)
              clear HM
              have HM := n_
              clear n_
              clear hb hbx_ hgb_ hw_
              refine hK.out _ _ (⟨(blk_cell (HM.out.box 2 rfl) 0).trans rfl, (blk_cell (HM.out.box 1 rfl) 0).trans rfl⟩) (fun hHeld => ?_)
              clear hK K
              refine norm_ (a' := ?_) ?_ ?_
              rotate_left
              · show Act.put _ (some 6) _ = _
                simp only [Act.put, List.setIfInBounds_toArray, List.set_cons_zero, List.set_cons_succ, i64_w, i32_w]
                rfl
              refine one_ (i := 1) (N := some 29) #[true, true, true, false, false, false, false, false, true, false, false] rfl rfl (by kernel_rfl) (by decide) (fun K hK => ?_)
              refine goes_ Try.func23 (by kernel_rfl) rfl #[.agg #[.slice A0_0 l0_0.length c0_0]] (by rfl) rfl rfl (by (try simp only [List.map_toArray, List.map_cons, List.map_nil]); first | done | rfl | (simp only [List.length_drop, List.length_take]; rfl)) ?_
              with_reducible refine (laws_toFamily.calls k _ _ l0_0 t103 _ ?sd0 ?sd1 A11_.out).mono ?_
              (case sd0 => exact (Kd.C_below HR0_0.out HM.out.below))
              (case sd1 => exact HC0_0.out)
              rintro e_ w25_ ⟨vv0_, rfl, ho0_, hb⟩
              refine ⟨_, rfl, ?_⟩
              obtain ⟨Ao3_0, co3_0, ev_⟩ := Kd.R_slice ho0_
              subst ev_
              have n_ := Aside0.mk (HM.out.addR hb ho0_)
              clear HM
              have HM := n_
              clear n_
              clear hb ho0_
              refine hK.out _ _ (⟨(blk_cell (HM.out.box 3 rfl) 0).trans rfl, (blk_cell (HM.out.box 2 rfl) 0).trans rfl⟩) (fun hHeld => ?_)
              clear hK K
              refine norm_ (a' := ?_) ?_ ?_
              rotate_left
              · show Act.put _ (some 29) _ = _
                simp only [Act.put, List.setIfInBounds_toArray, List.set_cons_zero, List.set_cons_succ, i64_w, i32_w]
                rfl
              refine one_ (i := 3) (N := some 31) #[true, true, true, true, false, false, false, false, true, false, false] rfl rfl (by kernel_rfl) (by decide) (fun K hK => ?_)
              refine goes_ Try.func23 (by kernel_rfl) rfl #[.agg #[.slice A1_0 l1_0.length c1_0]] (by rfl) rfl rfl (by (try simp only [List.map_toArray, List.map_cons, List.map_nil]); first | done | rfl | (simp only [List.length_drop, List.length_take]; rfl)) ?_
              with_reducible refine (laws_toFamily.calls k _ _ l1_0 t104 _ ?sd0 ?sd1 A12_.out).mono ?_
              (case sd0 => exact (Kd.C_below HR1_0.out HM.out.below))
              (case sd1 => exact HC1_0.out)
              rintro e_ w26_ ⟨vv0_, rfl, ho0_, hb⟩
              refine ⟨_, rfl, ?_⟩
              obtain ⟨Ao4_0, co4_0, ev_⟩ := Kd.R_slice ho0_
              subst ev_
              have n_ := Aside0.mk (HM.out.addR hb ho0_)
              clear HM
              have HM := n_
              clear n_
              clear hb ho0_
              refine hK.out _ _ (⟨(blk_cell (HM.out.box 4 rfl) 0).trans rfl, (blk_cell (HM.out.box 3 rfl) 0).trans rfl⟩) (fun hHeld => ?_)
              clear hK K
              refine norm_ (a' := ?_) ?_ ?_
              rotate_left
              · show Act.put _ (some 31) _ = _
                simp only [Act.put, List.setIfInBounds_toArray, List.set_cons_zero, List.set_cons_succ, i64_w, i32_w]
                rfl
              refine one_ (i := 4) (N := some 32) #[true, true, true, true, true, false, false, false, true, false, false] rfl rfl (by kernel_rfl) (by decide) (fun K hK => ?_)
              refine goes_ Try.func29 (by kernel_rfl) rfl #[.agg #[.slice Ao3_0 t103.length co3_0], .agg #[.slice Ao4_0 t104.length co4_0]] (by rfl) rfl rfl (by (try simp only [List.map_toArray, List.map_cons, List.map_nil]); first | done | rfl | (simp only [List.length_drop, List.length_take]; rfl)) ?_
              with_reducible refine (spec_OrFamily.calls k _ _ t103 _ _ t104 t105 t106 _ ?sd0 ?sd1 ?sd2 ?sd3 A13_.out).mono ?_
              (case sd0 => exact (Kd.R_reads' (HM.out.R (h1 := fun _ => rfl) 1 rfl)).2.2)
              (case sd1 => exact (Kd.R_reads' (HM.out.R (h1 := fun _ => rfl) 1 rfl)).2.1)
              (case sd2 => exact (Kd.R_reads' (HM.out.R (h1 := fun _ => rfl) 0 rfl)).2.2)
              (case sd3 => exact (Kd.R_reads' (HM.out.R (h1 := fun _ => rfl) 0 rfl)).2.1)
              rintro e_ w27_ ⟨vv0_, rfl, ho0_, hb⟩
              refine ⟨_, rfl, ?_⟩
              obtain ⟨Ao5_0, co5_0, ev_⟩ := Kd.R_slice ho0_
              subst ev_
              have n_ := Aside0.mk (HM.out.addR hb ho0_)
              clear HM
              have HM := n_
              clear n_
              clear hb ho0_
              refine hK.out _ _ (⟨(blk_cell (HM.out.box 5 rfl) 0).trans rfl, (blk_cell (HM.out.box 4 rfl) 0).trans rfl⟩) (fun hHeld => ?_)
              clear hK K
              refine norm_ (a' := ?_) ?_ ?_
              rotate_left
              · show Act.put _ (some 32) _ = _
                simp only [Act.put, List.setIfInBounds_toArray, List.set_cons_zero, List.set_cons_succ, i64_w, i32_w]
                rfl
              refine pure_ (i := 5) (N := some 27) (v := ?_) (a' := ?_) #[true, true, true, true, true, true, false, false, true, false, false] rfl rfl (by kernel_rfl) (fun _ _ _ h => h) (Or.inl ⟨by rfl, ?_⟩) ?_ ?_
              rotate_left
              · intro w'
                go_simp
                first | with_reducible rfl | (simp [Instr.field, asAgg, Go.part, run_underlying hu24, run_underlying hu35]; rfl) | rfl
              rotate_left
              · simp only [Act.put, List.setIfInBounds_toArray, List.set_cons_zero, List.set_cons_succ, i64_w, i32_w]
                rfl
              refine pure_ (i := 6) (N := some 33) (v := ?_) (a' := ?_) #[true, true, true, true, true, true, true, false, true, false, false] rfl rfl (by kernel_rfl) (fun _ _ _ h => h) (Or.inl ⟨by rfl, ?_⟩) ?_ ?_
              rotate_left
              · intro w'
                go_simp
                first | with_reducible rfl | (simp [Instr.field, asAgg, Go.part, run_underlying hu24, run_underlying hu35]; rfl) | rfl
              rotate_left
              · simp only [Act.put, List.setIfInBounds_toArray, List.set_cons_zero, List.set_cons_succ, i64_w, i32_w]
                rfl
              refine pure_ (i := 7) (N := some 34) (v := ?_) (a' := ?_) #[true, true, true, true, true, true, true, true, true, false, false] rfl rfl (by kernel_rfl) (fun _ _ _ h => h) (Or.inl ⟨by rfl, ?_⟩) ?_ ?_
              rotate_left
              · intro w'
                go_simp
                first | with_reducible rfl | (simp [Instr.field, asAgg, Go.part, run_underlying hu24, run_underlying hu35]; rfl) | rfl
              rotate_left
              · simp only [Act.put, List.setIfInBounds_toArray, List.set_cons_zero, List.set_cons_succ, i64_w, i32_w]
                rfl
              have h_ := hC (Ao3_0, co3_0, Ao4_0, co4_0, Ao5_0, co5_0, gb6) w27_ (((((HM.out.front 2 rfl).front 2 rfl).front 2 rfl).front 3 rfl))
              simp only [putAll, Act.put, List.setIfInBounds_toArray, List.set_cons_zero, List.set_cons_succ] at h_
              exact h_
          · rintro ⟨Ao3_0, co3_0, Ao4_0, co4_0, Ao5_0, co5_0, gb6⟩ w28_ hm_
            have n_ := Aside0.mk (show MS w w28_ [.box gb6 24 #[.slice none 0 0], .row 3 (.slice Ao5_0 t105.length co5_0) (encs (Value.int .i64) t105), .row 3 (.slice Ao4_0 t104.length co4_0) (encs (Value.int .i64) t104), .row 3 (.slice Ao3_0 t103.length co3_0) (encs (Value.int .i64) t103), .box gb2 35 #[.slice A1_0 l1_0.length c1_0], .box gb1 35 #[.slice A0_0 l0_0.length c0_0]] from hm_)
            clear HM
            have HM := n_
            clear n_
            clear hm_
            have hHeld : (w28_.cell? ⟨gb1, 0, none⟩ = some (.slice A0_0 l0_0.length c0_0)) ∧ (w28_.cell? ⟨gb2, 0, none⟩ = some (.slice A1_0 l1_0.length c1_0)) := ⟨(blk_cell (HM.out.box 5 rfl) 0).trans rfl, (blk_cell (HM.out.box 4 rfl) 0).trans rfl⟩
            refine norm_ (a' := ?_) ?_ ?_
            rotate_left
            · simp only [putAll, Act.put, List.setIfInBounds_toArray, List.set_cons_zero, List.set_cons_succ]
              rfl
            have hcz30_0 : w28_.cell? ⟨gb6, 0, none⟩ = some (.slice none 0 0) := (blk_cell (HM.out.box 0 rfl) 0).trans rfl
            have hfz30_0 := blk_frozen (HM.out.box 0 rfl) 0
            refine last_ (i := 9) (N := none) #[true, true, true, true, true, true, true, true, true, true, false] rfl rfl (by kernel_rfl) (by decide) (fun K hK => ?_)
            refine skip_ (w1 := w28_.setCell ⟨gb6, 0, none⟩ (.slice Ao5_0 t105.length co5_0)) (by rfl) rfl ?_ ?_
            · first | (go_simp; done) | (go_simp; rfl)
            generalize hw : w28_.setCell ⟨gb6, 0, none⟩ (.slice Ao5_0 t105.length co5_0) = w29_
            have n_ : Aside0 (MS w w29_ [.box gb6 24 #[.slice Ao5_0 t105.length co5_0], .row 3 (.slice Ao5_0 t105.length co5_0) (encs (Value.int .i64) t105), .row 3 (.slice Ao4_0 t104.length co4_0) (encs (Value.int .i64) t104), .row 3 (.slice Ao3_0 t103.length co3_0) (encs (Value.int .i64) t103), .box gb2 35 #[.slice A1_0 l1_0.length c1_0], .box gb1 35 #[.slice A0_0 l0_0.length c0_0]]) := ⟨by rw [← hw]; exact HM.out.setBox 0 rfl _ _ rfl⟩
            clear HM hw
            have HM := n_
            clear n_
            refine hK.out _ _ ?_
            clear hK K
            refine pure_ (i := 10) (N := some 7) (v := ?_) (a' := ?_) #[true, true, true, true, true, true, true, true, true, true, true] rfl rfl (by kernel_rfl) (fun _ _ _ h => h) (Or.inl ⟨by rfl, ?_⟩) ?_ ?_
            rotate_left
            · intro w'
              go_simp
              first | with_reducible rfl | (simp [Instr.field, asAgg, Go.part, run_underlying hu24, run_underlying hu35]; rfl) | rfl
            rotate_left
            · simp only [Act.put, List.setIfInBounds_toArray, List.set_cons_zero, List.set_cons_succ, i64_w, i32_w]
              rfl
            refine done_ (by kernel_rfl) ?_
            have H := H'.out
            clear H'
            replace H := Option.bind_eq_some_iff.mp H
            obtain ⟨t107, A31_0, H⟩ := H
            replace H : ((laws_toFamily.f k l1_0).bind fun t108 => ((impl_OrFamily.f k t107 t108).bind fun bt109 => ((laws_eqFamily.f k bt109.1 t105).bind fun t111 => (if t111 = true then (if (bt109.2 != t106) = true then (some false) else ((laws_toFamily.f k l0_0).bind fun t112 => ((laws_eqFamily.f k t107 t112).bind fun t113 => (if t113 = true then ((laws_toFamily.f k l1_0).bind fun t114 => ((laws_eqFamily.f k t108 t114).bind fun t115 => (if t115 = true then ((laws_markFamily.f k t107 1).bind fun bt116 => ((laws_markFamily.f k t108 bt116.1).bind fun bt118 => (if bt118.1 < 0 then (some false) else ((laws_eqFamily.f k bt109.1 t105).bind fun t120 => (if t120 = true then ((laws_markFamily.f k bt109.1 1).bind fun bt121 => ((laws_heldFamily.f k bt121.2 1).bind fun t123 => (if t123 < 0 then (some false) else (if t123 = bt121.1 then ((laws_toFamily.f k l0_0).bind fun t124 => ((laws_toFamily.f k l1_0).bind fun t125 => ((impl_OrFamily.f k t124 t125).bind fun bt126 => ((laws_eqFamily.f k bt126.1 t105).bind fun t128 => (if t128 = true then (if (bt126.2 != t106) = true then (some false) else ((laws_heldFamily.f k bt121.2 1).bind fun t129 => (if t129 < 0 then (some false) else (if t129 = bt121.1 then (some true) else (some false))))) else (some false)))))) else (some false))))) else (some false)))))) else (some false)))) else (some false))))) else (some false))))) = some r := H
            have A31_ := Aside0.mk A31_0
            clear A31_0
            replace H := Option.bind_eq_some_iff.mp H
            obtain ⟨t108, A32_0, H⟩ := H
            replace H : ((impl_OrFamily.f k t107 t108).bind fun bt109 => ((laws_eqFamily.f k bt109.1 t105).bind fun t111 => (if t111 = true then (if (bt109.2 != t106) = true then (some false) else ((laws_toFamily.f k l0_0).bind fun t112 => ((laws_eqFamily.f k t107 t112).bind fun t113 => (if t113 = true then ((laws_toFamily.f k l1_0).bind fun t114 => ((laws_eqFamily.f k t108 t114).bind fun t115 => (if t115 = true then ((laws_markFamily.f k t107 1).bind fun bt116 => ((laws_markFamily.f k t108 bt116.1).bind fun bt118 => (if bt118.1 < 0 then (some false) else ((laws_eqFamily.f k bt109.1 t105).bind fun t120 => (if t120 = true then ((laws_markFamily.f k bt109.1 1).bind fun bt121 => ((laws_heldFamily.f k bt121.2 1).bind fun t123 => (if t123 < 0 then (some false) else (if t123 = bt121.1 then ((laws_toFamily.f k l0_0).bind fun t124 => ((laws_toFamily.f k l1_0).bind fun t125 => ((impl_OrFamily.f k t124 t125).bind fun bt126 => ((laws_eqFamily.f k bt126.1 t105).bind fun t128 => (if t128 = true then (if (bt126.2 != t106) = true then (some false) else ((laws_heldFamily.f k bt121.2 1).bind fun t129 => (if t129 < 0 then (some false) else (if t129 = bt121.1 then (some true) else (some false))))) else (some false)))))) else (some false))))) else (some false)))))) else (some false)))) else (some false))))) else (some false)))) = some r := H
            have A32_ := Aside0.mk A32_0
            clear A32_0
            replace H := Option.bind_eq_some_iff.mp H
            obtain ⟨⟨t109, t110⟩, A33_0, H⟩ := H
            replace H : ((laws_eqFamily.f k t109 t105).bind fun t111 => (if t111 = true then (if (t110 != t106) = true then (some false) else ((laws_toFamily.f k l0_0).bind fun t112 => ((laws_eqFamily.f k t107 t112).bind fun t113 => (if t113 = true then ((laws_toFamily.f k l1_0).bind fun t114 => ((laws_eqFamily.f k t108 t114).bind fun t115 => (if t115 = true then ((laws_markFamily.f k t107 1).bind fun bt116 => ((laws_markFamily.f k t108 bt116.1).bind fun bt118 => (if bt118.1 < 0 then (some false) else ((laws_eqFamily.f k t109 t105).bind fun t120 => (if t120 = true then ((laws_markFamily.f k t109 1).bind fun bt121 => ((laws_heldFamily.f k bt121.2 1).bind fun t123 => (if t123 < 0 then (some false) else (if t123 = bt121.1 then ((laws_toFamily.f k l0_0).bind fun t124 => ((laws_toFamily.f k l1_0).bind fun t125 => ((impl_OrFamily.f k t124 t125).bind fun bt126 => ((laws_eqFamily.f k bt126.1 t105).bind fun t128 => (if t128 = true then (if (bt126.2 != t106) = true then (some false) else ((laws_heldFamily.f k bt121.2 1).bind fun t129 => (if t129 < 0 then (some false) else (if t129 = bt121.1 then (some true) else (some false))))) else (some false)))))) else (some false))))) else (some false)))))) else (some false)))) else (some false))))) else (some false))) = some r := H
            have A33_ := Aside0.mk A33_0
            clear A33_0
            replace H := Option.bind_eq_some_iff.mp H
            obtain ⟨t111, A34_0, H⟩ := H
            replace H : (if t111 = true then (if (t110 != t106) = true then (some false) else ((laws_toFamily.f k l0_0).bind fun t112 => ((laws_eqFamily.f k t107 t112).bind fun t113 => (if t113 = true then ((laws_toFamily.f k l1_0).bind fun t114 => ((laws_eqFamily.f k t108 t114).bind fun t115 => (if t115 = true then ((laws_markFamily.f k t107 1).bind fun bt116 => ((laws_markFamily.f k t108 bt116.1).bind fun bt118 => (if bt118.1 < 0 then (some false) else ((laws_eqFamily.f k t109 t105).bind fun t120 => (if t120 = true then ((laws_markFamily.f k t109 1).bind fun bt121 => ((laws_heldFamily.f k bt121.2 1).bind fun t123 => (if t123 < 0 then (some false) else (if t123 = bt121.1 then ((laws_toFamily.f k l0_0).bind fun t124 => ((laws_toFamily.f k l1_0).bind fun t125 => ((impl_OrFamily.f k t124 t125).bind fun bt126 => ((laws_eqFamily.f k bt126.1 t105).bind fun t128 => (if t128 = true then (if (bt126.2 != t106) = true then (some false) else ((laws_heldFamily.f k bt121.2 1).bind fun t129 => (if t129 < 0 then (some false) else (if t129 = bt121.1 then (some true) else (some false))))) else (some false)))))) else (some false))))) else (some false)))))) else (some false)))) else (some false))))) else (some false)) = some r := H
            have A34_ := Aside0.mk A34_0
            clear A34_0
            have H' := Aside0.mk H
            clear H
            have hcz35_0 : w29_.cell? ⟨gb1, 0, none⟩ = some (.slice A0_0 l0_0.length c0_0) := (blk_cell (HM.out.box 5 rfl) 0).trans rfl
            have hfz35_0 := blk_frozen (HM.out.box 5 rfl) 0
            go_wp2_with (first | ((with_reducible refine gate_callee (f := 23) rfl ?_); (with_reducible refine gate_dst (N := 36) rfl ?_); refine goesL_ (some 36) rfl rfl Try.func23 (by kernel_rfl) rfl #[.agg #[.slice A0_0 l0_0.length c0_0]] rfl (by (try simp only [List.map_toArray, List.map_cons, List.map_nil]); first | done | rfl | (simp only [List.length_drop, List.length_take]; rfl)) ?_; (with_reducible refine (laws_toFamily.calls k _ _ l0_0 t107 _ ?sd0 ?sd1 A31_.out).mono ?_); (case sd0 => exact (Kd.C_below HR0_0.out HM.out.below)); (case sd1 => exact HC0_0.out); rintro e_ w36_ ⟨vv0_, rfl, ho0_, hb⟩; refine ⟨_, rfl, ?_⟩; obtain ⟨Ao7_0, co7_0, ev_⟩ := Kd.R_slice ho0_; subst ev_; have n_ := Aside0.mk (HM.out.addR hb ho0_); clear HM; have HM := n_; clear n_; clear hb ho0_) | ((with_reducible refine gate_dst (N := 8) rfl ?_); refine box_event ?hg (N := 8) ?hd (cs := #[.slice none 0 0]) (t := 24) ?hr ?_; (case hd => rfl); (case hg => rfl); (case hr => first | (go_simp; done) | (go_simp; rfl)); intro gb8 hg w37_ hbox hb; have n_ := Aside0.mk (HM.out.addBox hb hbox hg); clear HM; have HM := n_; clear n_; clear hb hbox hg; have hcz39_0 : w37_.cell? ⟨gb8, 0, none⟩ = some (.slice none 0 0) := (blk_cell (HM.out.box 0 rfl) 0).trans rfl; have hfz39_0 := blk_frozen (HM.out.box 0 rfl) 0) | ((with_reducible refine gate_store (t := 24) (p := 8) rfl ?_); refine store_event (t := 24) (p := 8) (v := ?vow38_) (w1 := (w37_.setCell ⟨gb8, 0, none⟩ (.slice Ao7_0 t107.length co7_0))) ?hg ?ho ?hn ?hr ?_; (case ho => rfl); (case hg => rfl); (case hn => rfl); (case hr => first | (go_simp; done) | (go_simp; rfl)); intro w38_ hw; have n_ : Aside0 (MS w w38_ [.box gb8 24 #[.slice Ao7_0 t107.length co7_0], .row 3 (.slice Ao7_0 t107.length co7_0) (encs (Value.int .i64) t107), .box gb6 24 #[.slice Ao5_0 t105.length co5_0], .row 3 (.slice Ao5_0 t105.length co5_0) (encs (Value.int .i64) t105), .row 3 (.slice Ao4_0 t104.length co4_0) (encs (Value.int .i64) t104), .row 3 (.slice Ao3_0 t103.length co3_0) (encs (Value.int .i64) t103), .box gb2 35 #[.slice A1_0 l1_0.length c1_0], .box gb1 35 #[.slice A0_0 l0_0.length c0_0]]) := ⟨by rw [hw]; exact HM.out.setBox 0 rfl _ _ rfl⟩; clear HM hw; have HM := n_; clear n_; have hcz40_0 : w38_.cell? ⟨gb2, 0, none⟩ = some (.slice A1_0 l1_0.length c1_0) := (blk_cell (HM.out.box 6 rfl) 0).trans rfl; have hfz40_0 := blk_frozen (HM.out.box 6 rfl) 0) | ((with_reducible refine gate_callee (f := 23) rfl ?_); (with_reducible refine gate_dst (N := 38) rfl ?_); refine goesL_ (some 38) rfl rfl Try.func23 (by kernel_rfl) rfl #[.agg #[.slice A1_0 l1_0.length c1_0]] rfl (by (try simp only [List.map_toArray, List.map_cons, List.map_nil]); first | done | rfl | (simp only [List.length_drop, List.length_take]; rfl)) ?_; (with_reducible refine (laws_toFamily.calls k _ _ l1_0 t108 _ ?sd0 ?sd1 A32_.out).mono ?_); (case sd0 => exact (Kd.C_below HR1_0.out HM.out.below)); (case sd1 => exact HC1_0.out); rintro e_ w41_ ⟨vv0_, rfl, ho0_, hb⟩; refine ⟨_, rfl, ?_⟩; obtain ⟨Ao9_0, co9_0, ev_⟩ := Kd.R_slice ho0_; subst ev_; have n_ := Aside0.mk (HM.out.addR hb ho0_); clear HM; have HM := n_; clear n_; clear hb ho0_) | ((with_reducible refine gate_dst (N := 9) rfl ?_); refine box_event ?hg (N := 9) ?hd (cs := #[.slice none 0 0]) (t := 24) ?hr ?_; (case hd => rfl); (case hg => rfl); (case hr => first | (go_simp; done) | (go_simp; rfl)); intro gb10 hg w42_ hbox hb; have n_ := Aside0.mk (HM.out.addBox hb hbox hg); clear HM; have HM := n_; clear n_; clear hb hbox hg; have hcz44_0 : w42_.cell? ⟨gb10, 0, none⟩ = some (.slice none 0 0) := (blk_cell (HM.out.box 0 rfl) 0).trans rfl; have hfz44_0 := blk_frozen (HM.out.box 0 rfl) 0) | ((with_reducible refine gate_store (t := 24) (p := 9) rfl ?_); refine store_event (t := 24) (p := 9) (v := ?vow43_) (w1 := (w42_.setCell ⟨gb10, 0, none⟩ (.slice Ao9_0 t108.length co9_0))) ?hg ?ho ?hn ?hr ?_; (case ho => rfl); (case hg => rfl); (case hn => rfl); (case hr => first | (go_simp; done) | (go_simp; rfl)); intro w43_ hw; have n_ : Aside0 (MS w w43_ [.box gb10 24 #[.slice Ao9_0 t108.length co9_0], .row 3 (.slice Ao9_0 t108.length co9_0) (encs (Value.int .i64) t108), .box gb8 24 #[.slice Ao7_0 t107.length co7_0], .row 3 (.slice Ao7_0 t107.length co7_0) (encs (Value.int .i64) t107), .box gb6 24 #[.slice Ao5_0 t105.length co5_0], .row 3 (.slice Ao5_0 t105.length co5_0) (encs (Value.int .i64) t105), .row 3 (.slice Ao4_0 t104.length co4_0) (encs (Value.int .i64) t104), .row 3 (.slice Ao3_0 t103.length co3_0) (encs (Value.int .i64) t103), .box gb2 35 #[.slice A1_0 l1_0.length c1_0], .box gb1 35 #[.slice A0_0 l0_0.length c0_0]]) := ⟨by rw [hw]; exact HM.out.setBox 0 rfl _ _ rfl⟩; clear HM hw; have HM := n_; clear n_; have hcz45_0 : w43_.cell? ⟨gb8, 0, none⟩ = some (.slice Ao7_0 t107.length co7_0) := (blk_cell (HM.out.box 2 rfl) 0).trans rfl; have hfz45_0 := blk_frozen (HM.out.box 2 rfl) 0; have hcz46_0 : w43_.cell? ⟨gb10, 0, none⟩ = some (.slice Ao9_0 t108.length co9_0) := (blk_cell (HM.out.box 0 rfl) 0).trans rfl; have hfz46_0 := blk_frozen (HM.out.box 0 rfl) 0) | ((with_reducible refine gate_callee (f := 30) rfl ?_); (with_reducible refine gate_dst (N := 42) rfl ?_); refine goesL_ (some 42) rfl rfl Try.func30 (by kernel_rfl) rfl #[.agg #[.slice Ao7_0 t107.length co7_0], .agg #[.slice Ao9_0 t108.length co9_0]] rfl (by (try simp only [List.map_toArray, List.map_cons, List.map_nil]); first | done | rfl | (simp only [List.length_drop, List.length_take]; rfl)) ?_; (with_reducible refine (impl_OrFamily.calls k _ _ t107 _ _ t108 t109 t110 _ ?sd0 ?sd1 ?sd2 ?sd3 A33_.out).mono ?_); (case sd0 => exact (Kd.R_reads' (HM.out.R (h1 := fun _ => rfl) 3 rfl)).2.2); (case sd1 => exact (Kd.R_reads' (HM.out.R (h1 := fun _ => rfl) 3 rfl)).2.1); (case sd2 => exact (Kd.R_reads' (HM.out.R (h1 := fun _ => rfl) 1 rfl)).2.2); (case sd3 => exact (Kd.R_reads' (HM.out.R (h1 := fun _ => rfl) 1 rfl)).2.1); rintro e_ w47_ ⟨vv0_, rfl, ho0_, hb⟩; refine ⟨_, rfl, ?_⟩; obtain ⟨Ao11_0, co11_0, ev_⟩ := Kd.R_slice ho0_; subst ev_; have n_ := Aside0.mk (HM.out.addR hb ho0_); clear HM; have HM := n_; clear n_; clear hb ho0_) | ((with_reducible refine gate_dst (N := 10) rfl ?_); refine box_event ?hg (N := 10) ?hd (cs := #[.slice none 0 0]) (t := 24) ?hr ?_; (case hd => rfl); (case hg => rfl); (case hr => first | (go_simp; done) | (go_simp; rfl)); intro gb12 hg w48_ hbox hb; have n_ := Aside0.mk (HM.out.addBox hb hbox hg); clear HM; have HM := n_; clear n_; clear hb hbox hg; have hcz50_0 : w48_.cell? ⟨gb12, 0, none⟩ = some (.slice none 0 0) := (blk_cell (HM.out.box 0 rfl) 0).trans rfl; have hfz50_0 := blk_frozen (HM.out.box 0 rfl) 0) | ((with_reducible refine gate_store (t := 24) (p := 10) rfl ?_); refine store_event (t := 24) (p := 10) (v := ?vow49_) (w1 := (w48_.setCell ⟨gb12, 0, none⟩ (.slice Ao11_0 t109.length co11_0))) ?hg ?ho ?hn ?hr ?_; (case ho => rfl); (case hg => rfl); (case hn => rfl); (case hr => first | (go_simp; done) | (go_simp; rfl)); intro w49_ hw; have n_ : Aside0 (MS w w49_ [.box gb12 24 #[.slice Ao11_0 t109.length co11_0], .row 3 (.slice Ao11_0 t109.length co11_0) (encs (Value.int .i64) t109), .box gb10 24 #[.slice Ao9_0 t108.length co9_0], .row 3 (.slice Ao9_0 t108.length co9_0) (encs (Value.int .i64) t108), .box gb8 24 #[.slice Ao7_0 t107.length co7_0], .row 3 (.slice Ao7_0 t107.length co7_0) (encs (Value.int .i64) t107), .box gb6 24 #[.slice Ao5_0 t105.length co5_0], .row 3 (.slice Ao5_0 t105.length co5_0) (encs (Value.int .i64) t105), .row 3 (.slice Ao4_0 t104.length co4_0) (encs (Value.int .i64) t104), .row 3 (.slice Ao3_0 t103.length co3_0) (encs (Value.int .i64) t103), .box gb2 35 #[.slice A1_0 l1_0.length c1_0], .box gb1 35 #[.slice A0_0 l0_0.length c0_0]]) := ⟨by rw [hw]; exact HM.out.setBox 0 rfl _ _ rfl⟩; clear HM hw; have HM := n_; clear n_; have hcz51_0 : w49_.cell? ⟨gb12, 0, none⟩ = some (.slice Ao11_0 t109.length co11_0) := (blk_cell (HM.out.box 0 rfl) 0).trans rfl; have hfz51_0 := blk_frozen (HM.out.box 0 rfl) 0; have hcz52_0 : w49_.cell? ⟨gb6, 0, none⟩ = some (.slice Ao5_0 t105.length co5_0) := (blk_cell (HM.out.box 6 rfl) 0).trans rfl; have hfz52_0 := blk_frozen (HM.out.box 6 rfl) 0) | ((with_reducible refine gate_callee (f := 14) rfl ?_); (with_reducible refine gate_dst (N := 47) rfl ?_); refine goesL_ (some 47) rfl rfl Try.func14 (by kernel_rfl) rfl #[.agg #[.slice Ao11_0 t109.length co11_0], .agg #[.slice Ao5_0 t105.length co5_0]] rfl (by (try simp only [List.map_toArray, List.map_cons, List.map_nil]); first | done | rfl | (simp only [List.length_drop, List.length_take]; rfl)) ?_; (with_reducible refine (laws_eqFamily.calls k _ _ t109 _ _ t105 t111 _ ?sd0 ?sd1 ?sd2 ?sd3 A34_.out).mono ?_); (case sd0 => exact (Kd.R_reads' (HM.out.R (h1 := fun _ => rfl) 1 rfl)).2.2); (case sd1 => exact (Kd.R_reads' (HM.out.R (h1 := fun _ => rfl) 1 rfl)).2.1); (case sd2 => exact (Kd.R_reads' (HM.out.R (h1 := fun _ => rfl) 7 rfl)).2.2); (case sd3 => exact (Kd.R_reads' (HM.out.R (h1 := fun _ => rfl) 7 rfl)).2.1); rintro e_ w53_ ⟨rfl, hb⟩; refine ⟨_, rfl, ?_⟩; have n_ := Aside0.mk (HM.out.step hb); clear HM; have HM := n_; clear n_; clear hb; refine id ?roundEnd))
            case roundEnd =>
              have H := H'.out
              clear H'
              by_cases c54_ : t111 = true
              · subst c54_
                have H1 : (if (t110 != t106) = true then (some false) else ((laws_toFamily.f k l0_0).bind fun t112 => ((laws_eqFamily.f k t107 t112).bind fun t113 => (if t113 = true then ((laws_toFamily.f k l1_0).bind fun t114 => ((laws_eqFamily.f k t108 t114).bind fun t115 => (if t115 = true then ((laws_markFamily.f k t107 1).bind fun bt116 => ((laws_markFamily.f k t108 bt116.1).bind fun bt118 => (if bt118.1 < 0 then (some false) else ((laws_eqFamily.f k t109 t105).bind fun t120 => (if t120 = true then ((laws_markFamily.f k t109 1).bind fun bt121 => ((laws_heldFamily.f k bt121.2 1).bind fun t123 => (if t123 < 0 then (some false) else (if t123 = bt121.1 then ((laws_toFamily.f k l0_0).bind fun t124 => ((laws_toFamily.f k l1_0).bind fun t125 => ((impl_OrFamily.f k t124 t125).bind fun bt126 => ((laws_eqFamily.f k bt126.1 t105).bind fun t128 => (if t128 = true then (if (bt126.2 != t106) = true then (some false) else ((laws_heldFamily.f k bt121.2 1).bind fun t129 => (if t129 < 0 then (some false) else (if t129 = bt121.1 then (some true) else (some false))))) else (some false)))))) else (some false))))) else (some false)))))) else (some false)))) else (some false))))) = some r := by rw [if_pos rfl] at H; exact H
                clear H
                have H := H1
                clear H1
                by_cases c55_ : (t110 != t106) = true
                · rw [if_pos c55_] at H
                  have c55_b0 : (t110 != t106) = true := by simpa using c55_
                  have c55_b1 : (t110 == t106) = false := by simpa using c55_
                  have c55_b2 : (t110 = t106) = False := eq_false (by simpa using c55_)
                  clear c55_
                  obtain rfl := Option.some.inj H
                  go_wp2
                  go_ret
                  exact ⟨by first | rfl | (simp; done) | (simp [*]; done), HM.out.below⟩
                · rw [if_neg c55_] at H
                  have c55_b0 : (t110 != t106) = false := by simpa using c55_
                  have c55_b1 : (t110 == t106) = true := by simpa using c55_
                  have c55_b2 : (t110 = t106) = True := eq_true (by simpa using c55_)
                  clear c55_
                  replace H := Option.bind_eq_some_iff.mp H
                  obtain ⟨t112, A56_0, H⟩ := H
                  replace H : ((laws_eqFamily.f k t107 t112).bind fun t113 => (if t113 = true then ((laws_toFamily.f k l1_0).bind fun t114 => ((laws_eqFamily.f k t108 t114).bind fun t115 => (if t115 = true then ((laws_markFamily.f k t107 1).bind fun bt116 => ((laws_markFamily.f k t108 bt116.1).bind fun bt118 => (if bt118.1 < 0 then (some false) else ((laws_eqFamily.f k t109 t105).bind fun t120 => (if t120 = true then ((laws_markFamily.f k t109 1).bind fun bt121 => ((laws_heldFamily.f k bt121.2 1).bind fun t123 => (if t123 < 0 then (some false) else (if t123 = bt121.1 then ((laws_toFamily.f k l0_0).bind fun t124 => ((laws_toFamily.f k l1_0).bind fun t125 => ((impl_OrFamily.f k t124 t125).bind fun bt126 => ((laws_eqFamily.f k bt126.1 t105).bind fun t128 => (if t128 = true then (if (bt126.2 != t106) = true then (some false) else ((laws_heldFamily.f k bt121.2 1).bind fun t129 => (if t129 < 0 then (some false) else (if t129 = bt121.1 then (some true) else (some false))))) else (some false)))))) else (some false))))) else (some false)))))) else (some false)))) else (some false))) = some r := H
                  have A56_ := Aside0.mk A56_0
                  clear A56_0
                  replace H := Option.bind_eq_some_iff.mp H
                  obtain ⟨t113, A57_0, H⟩ := H
                  replace H : (if t113 = true then ((laws_toFamily.f k l1_0).bind fun t114 => ((laws_eqFamily.f k t108 t114).bind fun t115 => (if t115 = true then ((laws_markFamily.f k t107 1).bind fun bt116 => ((laws_markFamily.f k t108 bt116.1).bind fun bt118 => (if bt118.1 < 0 then (some false) else ((laws_eqFamily.f k t109 t105).bind fun t120 => (if t120 = true then ((laws_markFamily.f k t109 1).bind fun bt121 => ((laws_heldFamily.f k bt121.2 1).bind fun t123 => (if t123 < 0 then (some false) else (if t123 = bt121.1 then ((laws_toFamily.f k l0_0).bind fun t124 => ((laws_toFamily.f k l1_0).bind fun t125 => ((impl_OrFamily.f k t124 t125).bind fun bt126 => ((laws_eqFamily.f k bt126.1 t105).bind fun t128 => (if t128 = true then (if (bt126.2 != t106) = true then (some false) else ((laws_heldFamily.f k bt121.2 1).bind fun t129 => (if t129 < 0 then (some false) else (if t129 = bt121.1 then (some true) else (some false))))) else (some false)))))) else (some false))))) else (some false)))))) else (some false)))) else (some false)) = some r := H
                  have A57_ := Aside0.mk A57_0
                  clear A57_0
                  have H' := Aside0.mk H
                  clear H
                  go_wp2
                  have n_ := Aside0.mk (HM.out.step (below_drew1 (Below.refl w53_.heap.size w53_)))
                  clear HM
                  have HM := n_
                  clear n_
                  refine start_ (n := 5) (S := fun w' => (w'.cell? ⟨gb8, 0, none⟩ = some (.slice Ao7_0 t107.length co7_0)) ∧ (w'.cell? ⟨gb1, 0, none⟩ = some (.slice A0_0 l0_0.length c0_0))) (ds := []) #[false, false, false, false, false] (by kernel_rfl) rfl rfl (⟨(blk_cell (HM.out.box 4 rfl) 0).trans rfl, (blk_cell (HM.out.box 11 rfl) 0).trans rfl⟩) (fun hHeld => ?_)
                  generalize w53_.drew = w58_ at HM hHeld ⊢
                  refine take_ (i := 0) (N := some 54) (v := ?_) (a' := ?_) #[true, false, false, false, false] rfl rfl (by kernel_rfl) (fun _ _ _ h => h) (Or.inl ⟨by rfl, ?_⟩) hHeld ?_ ?_
                  rotate_left
                  · intro w' s0
                    obtain ⟨s0_, s1_⟩ := s0
                    go_simp
                    first | with_reducible rfl | (simp [Instr.field, asAgg, Go.part, run_underlying hu24, run_underlying hu35]; rfl) | rfl
                  rotate_left
                  · simp only [Act.put, List.setIfInBounds_toArray, List.set_cons_zero, List.set_cons_succ, i64_w, i32_w]
                    rfl
                  refine take_ (i := 1) (N := some 55) (v := ?_) (a' := ?_) #[true, true, false, false, false] rfl rfl (by kernel_rfl) (fun _ _ _ h => h) (Or.inl ⟨by rfl, ?_⟩) hHeld ?_ ?_
                  rotate_left
                  · intro w' s0
                    obtain ⟨s0_, s1_⟩ := s0
                    go_simp
                    first | with_reducible rfl | (simp [Instr.field, asAgg, Go.part, run_underlying hu24, run_underlying hu35]; rfl) | rfl
                  rotate_left
                  · simp only [Act.put, List.setIfInBounds_toArray, List.set_cons_zero, List.set_cons_succ, i64_w, i32_w]
                    rfl
                  refine one_ (i := 2) (N := some 56) #[true, true, true, false, false] rfl rfl (by kernel_rfl) (by decide) (fun K hK => ?_)
                  refine goes_ Try.func23 (by kernel_rfl) rfl #[.agg #[.slice A0_0 l0_0.length c0_0]] (by rfl) rfl rfl (by (try simp only [List.map_toArray, List.map_cons, List.map_nil]); first | done | rfl | (simp only [List.length_drop, List.length_take]; rfl)) ?_
                  with_reducible refine (laws_toFamily.calls k _ _ l0_0 t112 _ ?sd0 ?sd1 A56_.out).mono ?_
                  (case sd0 => exact (Kd.C_below HR0_0.out HM.out.below))
                  (case sd1 => exact HC0_0.out)
                  rintro e_ w59_ ⟨vv0_, rfl, ho0_, hb⟩
                  refine ⟨_, rfl, ?_⟩
                  obtain ⟨Ao13_0, co13_0, ev_⟩ := Kd.R_slice ho0_
                  subst ev_
                  have n_ := Aside0.mk (HM.out.addR hb ho0_)
                  clear HM
                  have HM := n_
                  clear n_
                  clear hb ho0_
                  refine hK.out _ _ (⟨(blk_cell (HM.out.box 5 rfl) 0).trans rfl, (blk_cell (HM.out.box 12 rfl) 0).trans rfl⟩) (fun hHeld => ?_)
                  clear hK K
                  refine norm_ (a' := ?_) ?_ ?_
                  rotate_left
                  · show Act.put _ (some 56) _ = _
                    simp only [Act.put, List.setIfInBounds_toArray, List.set_cons_zero, List.set_cons_succ, i64_w, i32_w]
                    rfl
                  refine one_ (i := 3) (N := some 57) #[true, true, true, true, false] rfl rfl (by kernel_rfl) (by decide) (fun K hK => ?_)
                  refine goes_ Try.func14 (by kernel_rfl) rfl #[.agg #[.slice Ao7_0 t107.length co7_0], .agg #[.slice Ao13_0 t112.length co13_0]] (by rfl) rfl rfl (by (try simp only [List.map_toArray, List.map_cons, List.map_nil]); first | done | rfl | (simp only [List.length_drop, List.length_take]; rfl)) ?_
                  with_reducible refine (laws_eqFamily.calls k _ _ t107 _ _ t112 t113 _ ?sd0 ?sd1 ?sd2 ?sd3 A57_.out).mono ?_
                  (case sd0 => exact (Kd.R_reads' (HM.out.R (h1 := fun _ => rfl) 6 rfl)).2.2)
                  (case sd1 => exact (Kd.R_reads' (HM.out.R (h1 := fun _ => rfl) 6 rfl)).2.1)
                  (case sd2 => exact (Kd.R_reads' (HM.out.R (h1 := fun _ => rfl) 0 rfl)).2.2)
                  (case sd3 => exact (Kd.R_reads' (HM.out.R (h1 := fun _ => rfl) 0 rfl)).2.1)
                  rintro e_ w60_ ⟨rfl, hb⟩
                  refine ⟨_, rfl, ?_⟩
                  have n_ := Aside0.mk (HM.out.step hb)
                  clear HM
                  have HM := n_
                  clear n_
                  clear hb
                  refine hK.out _ _ (⟨(blk_cell (HM.out.box 5 rfl) 0).trans rfl, (blk_cell (HM.out.box 12 rfl) 0).trans rfl⟩) (fun hHeld => ?_)
                  clear hK K
                  refine norm_ (a' := ?_) ?_ ?_
                  rotate_left
                  · show Act.put _ (some 57) _ = _
                    simp only [Act.put, List.setIfInBounds_toArray, List.set_cons_zero, List.set_cons_succ, i64_w, i32_w]
                    rfl
                  refine pure_ (i := 4) (N := some 58) (v := ?_) (a' := ?_) #[true, true, true, true, true] rfl rfl (by kernel_rfl) (fun _ _ _ h => h) (Or.inl ⟨by rfl, ?_⟩) ?_ ?_
                  rotate_left
                  · intro w'
                    go_simp
                    first | with_reducible rfl | (simp [Instr.field, asAgg, Go.part, run_underlying hu24, run_underlying hu35]; rfl) | rfl
                  rotate_left
                  · simp only [Act.put, List.setIfInBounds_toArray, List.set_cons_zero, List.set_cons_succ, i64_w, i32_w]
                    rfl
                  refine done_ (by kernel_rfl) ?_
                  have H := H'.out
                  clear H'
                  by_cases c61_ : t113 = true
                  · subst c61_
                    have H1 : ((laws_toFamily.f k l1_0).bind fun t114 => ((laws_eqFamily.f k t108 t114).bind fun t115 => (if t115 = true then ((laws_markFamily.f k t107 1).bind fun bt116 => ((laws_markFamily.f k t108 bt116.1).bind fun bt118 => (if bt118.1 < 0 then (some false) else ((laws_eqFamily.f k t109 t105).bind fun t120 => (if t120 = true then ((laws_markFamily.f k t109 1).bind fun bt121 => ((laws_heldFamily.f k bt121.2 1).bind fun t123 => (if t123 < 0 then (some false) else (if t123 = bt121.1 then ((laws_toFamily.f k l0_0).bind fun t124 => ((laws_toFamily.f k l1_0).bind fun t125 => ((impl_OrFamily.f k t124 t125).bind fun bt126 => ((laws_eqFamily.f k bt126.1 t105).bind fun t128 => (if t128 = true then (if (bt126.2 != t106) = true then (some false) else ((laws_heldFamily.f k bt121.2 1).bind fun t129 => (if t129 < 0 then (some false) else (if t129 = bt121.1 then (some true) else (some false))))) else (some false)))))) else (some false))))) else (some false)))))) else (some false)))) = some r := by rw [if_pos rfl] at H; exact H
                    clear H
                    have H := H1
                    clear H1
                    replace H := Option.bind_eq_some_iff.mp H
                    obtain ⟨t114, A62_0, H⟩ := H
                    replace H : ((laws_eqFamily.f k t108 t114).bind fun t115 => (if t115 = true then ((laws_markFamily.f k t107 1).bind fun bt116 => ((laws_markFamily.f k t108 bt116.1).bind fun bt118 => (if bt118.1 < 0 then (some false) else ((laws_eqFamily.f k t109 t105).bind fun t120 => (if t120 = true then ((laws_markFamily.f k t109 1).bind fun bt121 => ((laws_heldFamily.f k bt121.2 1).bind fun t123 => (if t123 < 0 then (some false) else (if t123 = bt121.1 then ((laws_toFamily.f k l0_0).bind fun t124 => ((laws_toFamily.f k l1_0).bind fun t125 => ((impl_OrFamily.f k t124 t125).bind fun bt126 => ((laws_eqFamily.f k bt126.1 t105).bind fun t128 => (if t128 = true then (if (bt126.2 != t106) = true then (some false) else ((laws_heldFamily.f k bt121.2 1).bind fun t129 => (if t129 < 0 then (some false) else (if t129 = bt121.1 then (some true) else (some false))))) else (some false)))))) else (some false))))) else (some false)))))) else (some false))) = some r := H
                    have A62_ := Aside0.mk A62_0
                    clear A62_0
                    replace H := Option.bind_eq_some_iff.mp H
                    obtain ⟨t115, A63_0, H⟩ := H
                    replace H : (if t115 = true then ((laws_markFamily.f k t107 1).bind fun bt116 => ((laws_markFamily.f k t108 bt116.1).bind fun bt118 => (if bt118.1 < 0 then (some false) else ((laws_eqFamily.f k t109 t105).bind fun t120 => (if t120 = true then ((laws_markFamily.f k t109 1).bind fun bt121 => ((laws_heldFamily.f k bt121.2 1).bind fun t123 => (if t123 < 0 then (some false) else (if t123 = bt121.1 then ((laws_toFamily.f k l0_0).bind fun t124 => ((laws_toFamily.f k l1_0).bind fun t125 => ((impl_OrFamily.f k t124 t125).bind fun bt126 => ((laws_eqFamily.f k bt126.1 t105).bind fun t128 => (if t128 = true then (if (bt126.2 != t106) = true then (some false) else ((laws_heldFamily.f k bt121.2 1).bind fun t129 => (if t129 < 0 then (some false) else (if t129 = bt121.1 then (some true) else (some false))))) else (some false)))))) else (some false))))) else (some false)))))) else (some false)) = some r := H
                    have A63_ := Aside0.mk A63_0
                    clear A63_0
                    have H' := Aside0.mk H
                    clear H
                    go_wp2
                    have n_ := Aside0.mk (HM.out.step (below_drew1 (Below.refl w60_.heap.size w60_)))
                    clear HM
                    have HM := n_
                    clear n_
                    refine start_ (n := 5) (S := fun w' => (w'.cell? ⟨gb10, 0, none⟩ = some (.slice Ao9_0 t108.length co9_0)) ∧ (w'.cell? ⟨gb2, 0, none⟩ = some (.slice A1_0 l1_0.length c1_0))) (ds := []) #[false, false, false, false, false] (by kernel_rfl) rfl rfl (⟨(blk_cell (HM.out.box 3 rfl) 0).trans rfl, (blk_cell (HM.out.box 11 rfl) 0).trans rfl⟩) (fun hHeld => ?_)
                    generalize w60_.drew = w64_ at HM hHeld ⊢
                    refine take_ (i := 0) (N := some 59) (v := ?_) (a' := ?_) #[true, false, false, false, false] rfl rfl (by kernel_rfl) (fun _ _ _ h => h) (Or.inl ⟨by rfl, ?_⟩) hHeld ?_ ?_
                    rotate_left
                    · intro w' s0
                      obtain ⟨s0_, s1_⟩ := s0
                      go_simp
                      first | with_reducible rfl | (simp [Instr.field, asAgg, Go.part, run_underlying hu24, run_underlying hu35]; rfl) | rfl
                    rotate_left
                    · simp only [Act.put, List.setIfInBounds_toArray, List.set_cons_zero, List.set_cons_succ, i64_w, i32_w]
                      rfl
                    refine take_ (i := 1) (N := some 60) (v := ?_) (a' := ?_) #[true, true, false, false, false] rfl rfl (by kernel_rfl) (fun _ _ _ h => h) (Or.inl ⟨by rfl, ?_⟩) hHeld ?_ ?_
                    rotate_left
                    · intro w' s0
                      obtain ⟨s0_, s1_⟩ := s0
                      go_simp
                      first | with_reducible rfl | (simp [Instr.field, asAgg, Go.part, run_underlying hu24, run_underlying hu35]; rfl) | rfl
                    rotate_left
                    · simp only [Act.put, List.setIfInBounds_toArray, List.set_cons_zero, List.set_cons_succ, i64_w, i32_w]
                      rfl
                    refine one_ (i := 2) (N := some 61) #[true, true, true, false, false] rfl rfl (by kernel_rfl) (by decide) (fun K hK => ?_)
                    refine goes_ Try.func23 (by kernel_rfl) rfl #[.agg #[.slice A1_0 l1_0.length c1_0]] (by rfl) rfl rfl (by (try simp only [List.map_toArray, List.map_cons, List.map_nil]); first | done | rfl | (simp only [List.length_drop, List.length_take]; rfl)) ?_
                    with_reducible refine (laws_toFamily.calls k _ _ l1_0 t114 _ ?sd0 ?sd1 A62_.out).mono ?_
                    (case sd0 => exact (Kd.C_below HR1_0.out HM.out.below))
                    (case sd1 => exact HC1_0.out)
                    rintro e_ w65_ ⟨vv0_, rfl, ho0_, hb⟩
                    refine ⟨_, rfl, ?_⟩
                    obtain ⟨Ao14_0, co14_0, ev_⟩ := Kd.R_slice ho0_
                    subst ev_
                    have n_ := Aside0.mk (HM.out.addR hb ho0_)
                    clear HM
                    have HM := n_
                    clear n_
                    clear hb ho0_
                    refine hK.out _ _ (⟨(blk_cell (HM.out.box 4 rfl) 0).trans rfl, (blk_cell (HM.out.box 12 rfl) 0).trans rfl⟩) (fun hHeld => ?_)
                    clear hK K
                    refine norm_ (a' := ?_) ?_ ?_
                    rotate_left
                    · show Act.put _ (some 61) _ = _
                      simp only [Act.put, List.setIfInBounds_toArray, List.set_cons_zero, List.set_cons_succ, i64_w, i32_w]
                      rfl
                    refine one_ (i := 3) (N := some 62) #[true, true, true, true, false] rfl rfl (by kernel_rfl) (by decide) (fun K hK => ?_)
                    refine goes_ Try.func14 (by kernel_rfl) rfl #[.agg #[.slice Ao9_0 t108.length co9_0], .agg #[.slice Ao14_0 t114.length co14_0]] (by rfl) rfl rfl (by (try simp only [List.map_toArray, List.map_cons, List.map_nil]); first | done | rfl | (simp only [List.length_drop, List.length_take]; rfl)) ?_
                    with_reducible refine (laws_eqFamily.calls k _ _ t108 _ _ t114 t115 _ ?sd0 ?sd1 ?sd2 ?sd3 A63_.out).mono ?_
                    (case sd0 => exact (Kd.R_reads' (HM.out.R (h1 := fun _ => rfl) 5 rfl)).2.2)
                    (case sd1 => exact (Kd.R_reads' (HM.out.R (h1 := fun _ => rfl) 5 rfl)).2.1)
                    (case sd2 => exact (Kd.R_reads' (HM.out.R (h1 := fun _ => rfl) 0 rfl)).2.2)
                    (case sd3 => exact (Kd.R_reads' (HM.out.R (h1 := fun _ => rfl) 0 rfl)).2.1)
                    rintro e_ w66_ ⟨rfl, hb⟩
                    refine ⟨_, rfl, ?_⟩
                    have n_ := Aside0.mk (HM.out.step hb)
                    clear HM
                    have HM := n_
                    clear n_
                    clear hb
                    refine hK.out _ _ (⟨(blk_cell (HM.out.box 4 rfl) 0).trans rfl, (blk_cell (HM.out.box 12 rfl) 0).trans rfl⟩) (fun hHeld => ?_)
                    clear hK K
                    refine norm_ (a' := ?_) ?_ ?_
                    rotate_left
                    · show Act.put _ (some 62) _ = _
                      simp only [Act.put, List.setIfInBounds_toArray, List.set_cons_zero, List.set_cons_succ, i64_w, i32_w]
                      rfl
                    refine pure_ (i := 4) (N := some 63) (v := ?_) (a' := ?_) #[true, true, true, true, true] rfl rfl (by kernel_rfl) (fun _ _ _ h => h) (Or.inl ⟨by rfl, ?_⟩) ?_ ?_
                    rotate_left
                    · intro w'
                      go_simp
                      first | with_reducible rfl | (simp [Instr.field, asAgg, Go.part, run_underlying hu24, run_underlying hu35]; rfl) | rfl
                    rotate_left
                    · simp only [Act.put, List.setIfInBounds_toArray, List.set_cons_zero, List.set_cons_succ, i64_w, i32_w]
                      rfl
                    refine done_ (by kernel_rfl) ?_
                    have H := H'.out
                    clear H'
                    by_cases c67_ : t115 = true
                    · subst c67_
                      have H1 : ((laws_markFamily.f k t107 1).bind fun bt116 => ((laws_markFamily.f k t108 bt116.1).bind fun bt118 => (if bt118.1 < 0 then (some false) else ((laws_eqFamily.f k t109 t105).bind fun t120 => (if t120 = true then ((laws_markFamily.f k t109 1).bind fun bt121 => ((laws_heldFamily.f k bt121.2 1).bind fun t123 => (if t123 < 0 then (some false) else (if t123 = bt121.1 then ((laws_toFamily.f k l0_0).bind fun t124 => ((laws_toFamily.f k l1_0).bind fun t125 => ((impl_OrFamily.f k t124 t125).bind fun bt126 => ((laws_eqFamily.f k bt126.1 t105).bind fun t128 => (if t128 = true then (if (bt126.2 != t106) = true then (some false) else ((laws_heldFamily.f k bt121.2 1).bind fun t129 => (if t129 < 0 then (some false) else (if t129 = bt121.1 then (some true) else (some false))))) else (some false)))))) else (some false))))) else (some false)))))) = some r := by rw [if_pos rfl] at H; exact H
                      clear H
                      have H := H1
                      clear H1
                      replace H := Option.bind_eq_some_iff.mp H
                      obtain ⟨⟨t116, t117⟩, A68_0, H⟩ := H
                      replace H : ((laws_markFamily.f k t108 t116).bind fun bt118 => (if bt118.1 < 0 then (some false) else ((laws_eqFamily.f k t109 t105).bind fun t120 => (if t120 = true then ((laws_markFamily.f k t109 1).bind fun bt121 => ((laws_heldFamily.f k bt121.2 1).bind fun t123 => (if t123 < 0 then (some false) else (if t123 = bt121.1 then ((laws_toFamily.f k l0_0).bind fun t124 => ((laws_toFamily.f k l1_0).bind fun t125 => ((impl_OrFamily.f k t124 t125).bind fun bt126 => ((laws_eqFamily.f k bt126.1 t105).bind fun t128 => (if t128 = true then (if (bt126.2 != t106) = true then (some false) else ((laws_heldFamily.f k bt121.2 1).bind fun t129 => (if t129 < 0 then (some false) else (if t129 = bt121.1 then (some true) else (some false))))) else (some false)))))) else (some false))))) else (some false))))) = some r := H
                      have A68_ := Aside0.mk A68_0
                      clear A68_0
                      replace H := Option.bind_eq_some_iff.mp H
                      obtain ⟨⟨t118, t119⟩, A69_0, H⟩ := H
                      replace H : (if t118 < 0 then (some false) else ((laws_eqFamily.f k t109 t105).bind fun t120 => (if t120 = true then ((laws_markFamily.f k t109 1).bind fun bt121 => ((laws_heldFamily.f k bt121.2 1).bind fun t123 => (if t123 < 0 then (some false) else (if t123 = bt121.1 then ((laws_toFamily.f k l0_0).bind fun t124 => ((laws_toFamily.f k l1_0).bind fun t125 => ((impl_OrFamily.f k t124 t125).bind fun bt126 => ((laws_eqFamily.f k bt126.1 t105).bind fun t128 => (if t128 = true then (if (bt126.2 != t106) = true then (some false) else ((laws_heldFamily.f k bt121.2 1).bind fun t129 => (if t129 < 0 then (some false) else (if t129 = bt121.1 then (some true) else (some false))))) else (some false)))))) else (some false))))) else (some false)))) = some r := H
                      have A69_ := Aside0.mk A69_0
                      clear A69_0
                      have H' := Aside0.mk H
                      clear H
                      have hcz70_0 : w66_.cell? ⟨gb8, 0, none⟩ = some (.slice Ao7_0 t107.length co7_0) := (blk_cell (HM.out.box 6 rfl) 0).trans rfl
                      have hfz70_0 := blk_frozen (HM.out.box 6 rfl) 0
                      go_wp2_with (first | ((with_reducible refine gate_callee (f := 17) rfl ?_); (with_reducible refine gate_dst (N := 66) rfl ?_); refine goesL_ (some 66) rfl rfl Try.func17 (by kernel_rfl) rfl #[.agg #[.slice Ao7_0 t107.length co7_0], .int .i64 1] rfl (by (try simp only [List.map_toArray, List.map_cons, List.map_nil]); first | done | rfl) ?_; (refine (laws_markFamily.calls k (fun k_ => (.slice Ao7_0 t107.length co7_0 : Value).ownBlock = some k_) (.slice Ao7_0 t107.length co7_0) t107 1 t116 t117 w _ HM.out.below (HM.out.Rv 7 rfl) A68_.out).mono ?_); rintro e_ w71_ ⟨rfl, hR_, hb, hk_⟩; refine ⟨_, rfl, ?_⟩; have n_ := Aside0.mk (HM.out.mark 7 rfl hR_ hb hk_); clear HM; have HM := n_; clear n_; have hl_ : t107.length = t117.length := (by obtain ⟨A_, c_, e_⟩ := Kd.R_slice hR_; exact slice_len e_); clear hR_ hb hk_; rw [hl_] at HM ⊢; clear hl_; have n_ : Aside0 (MS w w71_ [.row 3 (.slice Ao14_0 t114.length co14_0) (encs (Value.int .i64) t114), .row 3 (.slice Ao13_0 t112.length co13_0) (encs (Value.int .i64) t112), .box gb12 24 #[.slice Ao11_0 t109.length co11_0], .row 3 (.slice Ao11_0 t109.length co11_0) (encs (Value.int .i64) t109), .box gb10 24 #[.slice Ao9_0 t108.length co9_0], .row 3 (.slice Ao9_0 t108.length co9_0) (encs (Value.int .i64) t108), .box gb8 24 #[.slice Ao7_0 t117.length co7_0], .row 3 (.slice Ao7_0 t117.length co7_0) (encs (Value.int .i64) t117), .box gb6 24 #[.slice Ao5_0 t105.length co5_0], .row 3 (.slice Ao5_0 t105.length co5_0) (encs (Value.int .i64) t105), .row 3 (.slice Ao4_0 t104.length co4_0) (encs (Value.int .i64) t104), .row 3 (.slice Ao3_0 t103.length co3_0) (encs (Value.int .i64) t103), .box gb2 35 #[.slice A1_0 l1_0.length c1_0], .box gb1 35 #[.slice A0_0 l0_0.length c0_0]]) := ⟨HM.out⟩; clear HM; have HM := n_; clear n_; have hcz72_0 : w71_.cell? ⟨gb10, 0, none⟩ = some (.slice Ao9_0 t108.length co9_0) := (blk_cell (HM.out.box 4 rfl) 0).trans rfl; have hfz72_0 := blk_frozen (HM.out.box 4 rfl) 0) | ((with_reducible refine gate_callee (f := 17) rfl ?_); (with_reducible refine gate_dst (N := 69) rfl ?_); refine goesL_ (some 69) rfl rfl Try.func17 (by kernel_rfl) rfl #[.agg #[.slice Ao9_0 t108.length co9_0], .int .i64 t116] rfl (by (try simp only [List.map_toArray, List.map_cons, List.map_nil]); first | done | rfl) ?_; (refine (laws_markFamily.calls k (fun k_ => (.slice Ao9_0 t108.length co9_0 : Value).ownBlock = some k_) (.slice Ao9_0 t108.length co9_0) t108 t116 t118 t119 w _ HM.out.below (HM.out.Rv 5 rfl) A69_.out).mono ?_); rintro e_ w73_ ⟨rfl, hR_, hb, hk_⟩; refine ⟨_, rfl, ?_⟩; have n_ := Aside0.mk (HM.out.mark 5 rfl hR_ hb hk_); clear HM; have HM := n_; clear n_; have hl_ : t108.length = t119.length := (by obtain ⟨A_, c_, e_⟩ := Kd.R_slice hR_; exact slice_len e_); clear hR_ hb hk_; rw [hl_] at HM ⊢; clear hl_; have n_ : Aside0 (MS w w73_ [.row 3 (.slice Ao14_0 t114.length co14_0) (encs (Value.int .i64) t114), .row 3 (.slice Ao13_0 t112.length co13_0) (encs (Value.int .i64) t112), .box gb12 24 #[.slice Ao11_0 t109.length co11_0], .row 3 (.slice Ao11_0 t109.length co11_0) (encs (Value.int .i64) t109), .box gb10 24 #[.slice Ao9_0 t119.length co9_0], .row 3 (.slice Ao9_0 t119.length co9_0) (encs (Value.int .i64) t119), .box gb8 24 #[.slice Ao7_0 t117.length co7_0], .row 3 (.slice Ao7_0 t117.length co7_0) (encs (Value.int .i64) t117), .box gb6 24 #[.slice Ao5_0 t105.length co5_0], .row 3 (.slice Ao5_0 t105.length co5_0) (encs (Value.int .i64) t105), .row 3 (.slice Ao4_0 t104.length co4_0) (encs (Value.int .i64) t104), .row 3 (.slice Ao3_0 t103.length co3_0) (encs (Value.int .i64) t103), .box gb2 35 #[.slice A1_0 l1_0.length c1_0], .box gb1 35 #[.slice A0_0 l0_0.length c0_0]]) := ⟨HM.out⟩; clear HM; have HM := n_; clear n_; refine id ?roundEnd))
                      case roundEnd =>
                        have H := H'.out
                        clear H'
                        by_cases c74_ : t118 < 0
                        · rw [if_pos c74_] at H
                          have c74_b0 : decide (t118 < 0) = true := decide_eq_true c74_
                          clear c74_
                          obtain rfl := Option.some.inj H
                          go_wp2
                          go_ret
                          exact ⟨by first | rfl | (simp; done) | (simp [*]; done), HM.out.below⟩
                        · rw [if_neg c74_] at H
                          have c74_b0 : decide (t118 < 0) = false := decide_eq_false c74_
                          clear c74_
                          replace H := Option.bind_eq_some_iff.mp H
                          obtain ⟨t120, A75_0, H⟩ := H
                          replace H : (if t120 = true then ((laws_markFamily.f k t109 1).bind fun bt121 => ((laws_heldFamily.f k bt121.2 1).bind fun t123 => (if t123 < 0 then (some false) else (if t123 = bt121.1 then ((laws_toFamily.f k l0_0).bind fun t124 => ((laws_toFamily.f k l1_0).bind fun t125 => ((impl_OrFamily.f k t124 t125).bind fun bt126 => ((laws_eqFamily.f k bt126.1 t105).bind fun t128 => (if t128 = true then (if (bt126.2 != t106) = true then (some false) else ((laws_heldFamily.f k bt121.2 1).bind fun t129 => (if t129 < 0 then (some false) else (if t129 = bt121.1 then (some true) else (some false))))) else (some false)))))) else (some false))))) else (some false)) = some r := H
                          have A75_ := Aside0.mk A75_0
                          clear A75_0
                          have H' := Aside0.mk H
                          clear H
                          have hcz76_0 : w73_.cell? ⟨gb12, 0, none⟩ = some (.slice Ao11_0 t109.length co11_0) := (blk_cell (HM.out.box 2 rfl) 0).trans rfl
                          have hfz76_0 := blk_frozen (HM.out.box 2 rfl) 0
                          have hcz77_0 : w73_.cell? ⟨gb6, 0, none⟩ = some (.slice Ao5_0 t105.length co5_0) := (blk_cell (HM.out.box 8 rfl) 0).trans rfl
                          have hfz77_0 := blk_frozen (HM.out.box 8 rfl) 0
                          go_wp2_with (first | (go_at_call 14; (refine calls_of_args (args' := #[.agg #[.slice Ao11_0 t109.length co11_0], .agg #[.slice Ao5_0 t105.length co5_0]]) (by first | done | rfl) ?_); (with_reducible refine (laws_eqFamily.calls k _ _ t109 _ _ t105 t120 _ ?sd0 ?sd1 ?sd2 ?sd3 A75_.out).mono ?_); (case sd0 => exact (Kd.R_reads' (HM.out.R (h1 := fun _ => rfl) 3 rfl)).2.2); (case sd1 => exact (Kd.R_reads' (HM.out.R (h1 := fun _ => rfl) 3 rfl)).2.1); (case sd2 => exact (Kd.R_reads' (HM.out.R (h1 := fun _ => rfl) 9 rfl)).2.2); (case sd3 => exact (Kd.R_reads' (HM.out.R (h1 := fun _ => rfl) 9 rfl)).2.1); rintro e_ w78_ ⟨rfl, hb⟩; have n_ := Aside0.mk (HM.out.step hb); clear HM; have HM := n_; clear n_; clear hb; refine id ?roundEnd))
                          case roundEnd =>
                            have H := H'.out
                            clear H'
                            by_cases c79_ : t120 = true
                            · subst c79_
                              have H1 : ((laws_markFamily.f k t109 1).bind fun bt121 => ((laws_heldFamily.f k bt121.2 1).bind fun t123 => (if t123 < 0 then (some false) else (if t123 = bt121.1 then ((laws_toFamily.f k l0_0).bind fun t124 => ((laws_toFamily.f k l1_0).bind fun t125 => ((impl_OrFamily.f k t124 t125).bind fun bt126 => ((laws_eqFamily.f k bt126.1 t105).bind fun t128 => (if t128 = true then (if (bt126.2 != t106) = true then (some false) else ((laws_heldFamily.f k bt121.2 1).bind fun t129 => (if t129 < 0 then (some false) else (if t129 = bt121.1 then (some true) else (some false))))) else (some false)))))) else (some false))))) = some r := by rw [if_pos rfl] at H; exact H
                              clear H
                              have H := H1
                              clear H1
                              replace H := Option.bind_eq_some_iff.mp H
                              obtain ⟨⟨t121, t122⟩, A80_0, H⟩ := H
                              replace H : ((laws_heldFamily.f k t122 1).bind fun t123 => (if t123 < 0 then (some false) else (if t123 = t121 then ((laws_toFamily.f k l0_0).bind fun t124 => ((laws_toFamily.f k l1_0).bind fun t125 => ((impl_OrFamily.f k t124 t125).bind fun bt126 => ((laws_eqFamily.f k bt126.1 t105).bind fun t128 => (if t128 = true then (if (bt126.2 != t106) = true then (some false) else ((laws_heldFamily.f k t122 1).bind fun t129 => (if t129 < 0 then (some false) else (if t129 = t121 then (some true) else (some false))))) else (some false)))))) else (some false)))) = some r := H
                              have A80_ := Aside0.mk A80_0
                              clear A80_0
                              replace H := Option.bind_eq_some_iff.mp H
                              obtain ⟨t123, A81_0, H⟩ := H
                              replace H : (if t123 < 0 then (some false) else (if t123 = t121 then ((laws_toFamily.f k l0_0).bind fun t124 => ((laws_toFamily.f k l1_0).bind fun t125 => ((impl_OrFamily.f k t124 t125).bind fun bt126 => ((laws_eqFamily.f k bt126.1 t105).bind fun t128 => (if t128 = true then (if (bt126.2 != t106) = true then (some false) else ((laws_heldFamily.f k t122 1).bind fun t129 => (if t129 < 0 then (some false) else (if t129 = t121 then (some true) else (some false))))) else (some false)))))) else (some false))) = some r := H
                              have A81_ := Aside0.mk A81_0
                              clear A81_0
                              have H' := Aside0.mk H
                              clear H
                              have hcz82_0 : w78_.cell? ⟨gb12, 0, none⟩ = some (.slice Ao11_0 t109.length co11_0) := (blk_cell (HM.out.box 2 rfl) 0).trans rfl
                              have hfz82_0 := blk_frozen (HM.out.box 2 rfl) 0
                              go_wp2_with (first | ((with_reducible refine gate_callee (f := 17) rfl ?_); (with_reducible refine gate_dst (N := 85) rfl ?_); refine goesL_ (some 85) rfl rfl Try.func17 (by kernel_rfl) rfl #[.agg #[.slice Ao11_0 t109.length co11_0], .int .i64 1] rfl (by (try simp only [List.map_toArray, List.map_cons, List.map_nil]); first | done | rfl) ?_; (refine (laws_markFamily.calls k (fun k_ => (.slice Ao11_0 t109.length co11_0 : Value).ownBlock = some k_) (.slice Ao11_0 t109.length co11_0) t109 1 t121 t122 w _ HM.out.below (HM.out.Rv 3 rfl) A80_.out).mono ?_); rintro e_ w83_ ⟨rfl, hR_, hb, hk_⟩; refine ⟨_, rfl, ?_⟩; have n_ := Aside0.mk (HM.out.mark 3 rfl hR_ hb hk_); clear HM; have HM := n_; clear n_; have hl_ : t109.length = t122.length := (by obtain ⟨A_, c_, e_⟩ := Kd.R_slice hR_; exact slice_len e_); clear hR_ hb hk_; rw [hl_] at HM ⊢; clear hl_; have n_ : Aside0 (MS w w83_ [.row 3 (.slice Ao14_0 t114.length co14_0) (encs (Value.int .i64) t114), .row 3 (.slice Ao13_0 t112.length co13_0) (encs (Value.int .i64) t112), .box gb12 24 #[.slice Ao11_0 t122.length co11_0], .row 3 (.slice Ao11_0 t122.length co11_0) (encs (Value.int .i64) t122), .box gb10 24 #[.slice Ao9_0 t119.length co9_0], .row 3 (.slice Ao9_0 t119.length co9_0) (encs (Value.int .i64) t119), .box gb8 24 #[.slice Ao7_0 t117.length co7_0], .row 3 (.slice Ao7_0 t117.length co7_0) (encs (Value.int .i64) t117), .box gb6 24 #[.slice Ao5_0 t105.length co5_0], .row 3 (.slice Ao5_0 t105.length co5_0) (encs (Value.int .i64) t105), .row 3 (.slice Ao4_0 t104.length co4_0) (encs (Value.int .i64) t104), .row 3 (.slice Ao3_0 t103.length co3_0) (encs (Value.int .i64) t103), .box gb2 35 #[.slice A1_0 l1_0.length c1_0], .box gb1 35 #[.slice A0_0 l0_0.length c0_0]]) := ⟨HM.out⟩; clear HM; have HM := n_; clear n_; have hcz84_0 : w83_.cell? ⟨gb12, 0, none⟩ = some (.slice Ao11_0 t122.length co11_0) := (blk_cell (HM.out.box 2 rfl) 0).trans rfl; have hfz84_0 := blk_frozen (HM.out.box 2 rfl) 0) | ((with_reducible refine gate_callee (f := 18) rfl ?_); (with_reducible refine gate_dst (N := 88) rfl ?_); refine goesL_ (some 88) rfl rfl Try.func18 (by kernel_rfl) rfl #[.agg #[.slice Ao11_0 t122.length co11_0], .int .i64 1] rfl (by (try simp only [List.map_toArray, List.map_cons, List.map_nil]); first | done | rfl | (simp only [List.length_drop, List.length_take]; rfl)) ?_; (with_reducible refine (laws_heldFamily.calls k _ _ t122 1 t123 _ ?sd0 ?sd1 A81_.out).mono ?_); (case sd0 => exact (Kd.R_reads' (HM.out.R (h1 := fun _ => rfl) 3 rfl)).2.2); (case sd1 => exact (Kd.R_reads' (HM.out.R (h1 := fun _ => rfl) 3 rfl)).2.1); rintro e_ w85_ ⟨rfl, hb⟩; refine ⟨_, rfl, ?_⟩; have n_ := Aside0.mk (HM.out.step hb); clear HM; have HM := n_; clear n_; clear hb; refine id ?roundEnd))
                              case roundEnd =>
                                have H := H'.out
                                clear H'
                                by_cases c86_ : t123 < 0
                                · rw [if_pos c86_] at H
                                  have c86_b0 : decide (t123 < 0) = true := decide_eq_true c86_
                                  clear c86_
                                  obtain rfl := Option.some.inj H
                                  go_wp2
                                  go_ret
                                  exact ⟨by first | rfl | (simp; done) | (simp [*]; done), HM.out.below⟩
                                · rw [if_neg c86_] at H
                                  have c86_b0 : decide (t123 < 0) = false := decide_eq_false c86_
                                  clear c86_
                                  by_cases c87_ : t123 = t121
                                  · rw [if_pos c87_] at H
                                    have c87_b0 : (t123 == t121) = true := beq_iff_eq.mpr c87_
                                    have c87_b1 : (t123 != t121) = false := bne_eq_false_iff_eq.mpr c87_
                                    clear c87_
                                    replace H := Option.bind_eq_some_iff.mp H
                                    obtain ⟨t124, A88_0, H⟩ := H
                                    replace H : ((laws_toFamily.f k l1_0).bind fun t125 => ((impl_OrFamily.f k t124 t125).bind fun bt126 => ((laws_eqFamily.f k bt126.1 t105).bind fun t128 => (if t128 = true then (if (bt126.2 != t106) = true then (some false) else ((laws_heldFamily.f k t122 1).bind fun t129 => (if t129 < 0 then (some false) else (if t129 = t121 then (some true) else (some false))))) else (some false))))) = some r := H
                                    have A88_ := Aside0.mk A88_0
                                    clear A88_0
                                    replace H := Option.bind_eq_some_iff.mp H
                                    obtain ⟨t125, A89_0, H⟩ := H
                                    replace H : ((impl_OrFamily.f k t124 t125).bind fun bt126 => ((laws_eqFamily.f k bt126.1 t105).bind fun t128 => (if t128 = true then (if (bt126.2 != t106) = true then (some false) else ((laws_heldFamily.f k t122 1).bind fun t129 => (if t129 < 0 then (some false) else (if t129 = t121 then (some true) else (some false))))) else (some false)))) = some r := H
                                    have A89_ := Aside0.mk A89_0
                                    clear A89_0
                                    replace H := Option.bind_eq_some_iff.mp H
                                    obtain ⟨⟨t126, t127⟩, A90_0, H⟩ := H
                                    replace H : ((laws_eqFamily.f k t126 t105).bind fun t128 => (if t128 = true then (if (t127 != t106) = true then (some false) else ((laws_heldFamily.f k t122 1).bind fun t129 => (if t129 < 0 then (some false) else (if t129 = t121 then (some true) else (some false))))) else (some false))) = some r := H
                                    have A90_ := Aside0.mk A90_0
                                    clear A90_0
                                    have H' := Aside0.mk H
                                    clear H
                                    go_wp2
                                    have n_ := Aside0.mk (HM.out.step (below_drew1 (Below.refl w85_.heap.size w85_)))
                                    clear HM
                                    have HM := n_
                                    clear n_
                                    refine start_ (n := 11) (S := fun w' => (w'.cell? ⟨gb1, 0, none⟩ = some (.slice A0_0 l0_0.length c0_0)) ∧ (w'.cell? ⟨gb2, 0, none⟩ = some (.slice A1_0 l1_0.length c1_0))) (ds := [9]) #[false, false, false, false, false, false, false, false, false, false, false] (by kernel_rfl) rfl rfl (⟨(blk_cell (HM.out.box 13 rfl) 0).trans rfl, (blk_cell (HM.out.box 12 rfl) 0).trans rfl⟩) (fun hHeld => ?_)
                                    generalize w85_.drew = w91_ at HM hHeld ⊢
                                    refine take_ (i := 0) (N := some 95) (v := ?_) (a' := ?_) #[true, false, false, false, false, false, false, false, false, false, false] rfl rfl (by kernel_rfl) (fun _ _ _ h => h) (Or.inl ⟨by rfl, ?_⟩) hHeld ?_ ?_
                                    rotate_left
                                    · intro w' s0
                                      obtain ⟨s0_, s1_⟩ := s0
                                      go_simp
                                      first | with_reducible rfl | (simp [Instr.field, asAgg, Go.part, run_underlying hu24, run_underlying hu35]; rfl) | rfl
                                    rotate_left
                                    · simp only [Act.put, List.setIfInBounds_toArray, List.set_cons_zero, List.set_cons_succ, i64_w, i32_w]
                                      rfl
                                    refine take_ (i := 2) (N := some 97) (v := ?_) (a' := ?_) #[true, false, true, false, false, false, false, false, false, false, false] rfl rfl (by kernel_rfl) (fun _ _ _ h => h) (Or.inl ⟨by rfl, ?_⟩) hHeld ?_ ?_
                                    rotate_left
                                    · intro w' s0
                                      obtain ⟨s0_, s1_⟩ := s0
                                      go_simp
                                      first | with_reducible rfl | (simp [Instr.field, asAgg, Go.part, run_underlying hu24, run_underlying hu35]; rfl) | rfl
                                    rotate_left
                                    · simp only [Act.put, List.setIfInBounds_toArray, List.set_cons_zero, List.set_cons_succ, i64_w, i32_w]
                                      rfl
                                    refine join_ (σ := (Option Addr) × (Nat) × (Option Addr) × (Nat) × (Option Addr) × (Nat) × (Nat)) 2 #[true, true, true, true, true, true, true, true, true, false, false] (fun s_ => [(96, .agg #[.slice s_.1 t124.length s_.2.1]), (98, .agg #[.slice s_.2.2.1 t125.length s_.2.2.2.1]), (99, .tuple #[.agg #[.slice s_.2.2.2.2.1 t126.length s_.2.2.2.2.2.1], .bool t127]), (94, .tuple #[.agg #[.slice s_.2.2.2.2.1 t126.length s_.2.2.2.2.2.1], .bool t127]), (100, .agg #[.slice s_.2.2.2.2.1 t126.length s_.2.2.2.2.2.1]), (101, .bool t127), (15, .pointer (some ⟨s_.2.2.2.2.2.2, 0, none⟩))]) (fun s_ w' => MS w w' [.box s_.2.2.2.2.2.2 24 #[.slice none 0 0], .row 3 (.slice s_.2.2.2.2.1 t126.length s_.2.2.2.2.2.1) (encs (Value.int .i64) t126), .row 3 (.slice s_.2.2.1 t125.length s_.2.2.2.1) (encs (Value.int .i64) t125), .row 3 (.slice s_.1 t124.length s_.2.1) (encs (Value.int .i64) t124), .row 3 (.slice Ao14_0 t114.length co14_0) (encs (Value.int .i64) t114), .row 3 (.slice Ao13_0 t112.length co13_0) (encs (Value.int .i64) t112), .box gb12 24 #[.slice Ao11_0 t122.length co11_0], .row 3 (.slice Ao11_0 t122.length co11_0) (encs (Value.int .i64) t122), .box gb10 24 #[.slice Ao9_0 t119.length co9_0], .row 3 (.slice Ao9_0 t119.length co9_0) (encs (Value.int .i64) t119), .box gb8 24 #[.slice Ao7_0 t117.length co7_0], .row 3 (.slice Ao7_0 t117.length co7_0) (encs (Value.int .i64) t117), .box gb6 24 #[.slice Ao5_0 t105.length co5_0], .row 3 (.slice Ao5_0 t105.length co5_0) (encs (Value.int .i64) t105), .row 3 (.slice Ao4_0 t104.length co4_0) (encs (Value.int .i64) t104), .row 3 (.slice Ao3_0 t103.length co3_0) (encs (Value.int .i64) t103), .box gb2 35 #[.slice A1_0 l1_0.length c1_0], .box gb1 35 #[.slice A0_0 l0_0.length c0_0]]) ?_ ?_
                                    rotate_left
                                    · intro hC
                                      refine two_ (i := 1) (j := 8) (Ni := some 96) (Nj := some 15) #[true, true, true, false, false, false, false, false, false, false, false] #[true, false, true, false, false, false, false, false, true, false, false] rfl rfl rfl rfl (by kernel_rfl) (by decide) (by decide) (fun K hK => ?_) (fun K hK => ?_)
                                      · refine goes_ Try.func23 (by kernel_rfl) rfl #[.agg #[.slice A0_0 l0_0.length c0_0]] (by rfl) rfl rfl (by (try simp only [List.map_toArray, List.map_cons, List.map_nil]); first | done | rfl | (simp only [List.length_drop, List.length_take]; rfl)) ?_
                                        with_reducible refine (laws_toFamily.calls k _ _ l0_0 t124 _ ?sd0 ?sd1 A88_.out).mono ?_
                                        (case sd0 => exact (Kd.C_below HR0_0.out HM.out.below))
                                        (case sd1 => exact HC0_0.out)
                                        rintro e_ w92_ ⟨vv0_, rfl, ho0_, hb⟩
                                        refine ⟨_, rfl, ?_⟩
                                        obtain ⟨Ao15_0, co15_0, ev_⟩ := Kd.R_slice ho0_
                                        subst ev_
                                        have n_ := Aside0.mk (HM.out.addR hb ho0_)
                                        clear HM
                                        have HM := n_
                                        clear n_
                                        clear hb ho0_
                                        refine hK.out _ _ (⟨(blk_cell (HM.out.box 14 rfl) 0).trans rfl, (blk_cell (HM.out.box 13 rfl) 0).trans rfl⟩) (fun hHeld => ?_)
                                        clear hK K
                                        refine norm_ (a' := ?_) ?_ ?_
                                        rotate_left
                                        · show Act.put _ (some 96) _ = _
                                          simp only [Act.put, List.setIfInBounds_toArray, List.set_cons_zero, List.set_cons_succ, i64_w, i32_w]
                                          rfl
                                        refine two_ (i := 3) (j := 8) (Ni := some 98) (Nj := some 15) #[true, true, true, true, false, false, false, false, false, false, false] #[true, true, true, false, false, false, false, false, true, false, false] rfl rfl rfl rfl (by kernel_rfl) (by decide) (by decide) (fun K hK => ?_) (fun K hK => ?_)
                                        · refine goes_ Try.func23 (by kernel_rfl) rfl #[.agg #[.slice A1_0 l1_0.length c1_0]] (by rfl) rfl rfl (by (try simp only [List.map_toArray, List.map_cons, List.map_nil]); first | done | rfl | (simp only [List.length_drop, List.length_take]; rfl)) ?_
                                          with_reducible refine (laws_toFamily.calls k _ _ l1_0 t125 _ ?sd0 ?sd1 A89_.out).mono ?_
                                          (case sd0 => exact (Kd.C_below HR1_0.out HM.out.below))
                                          (case sd1 => exact HC1_0.out)
                                          rintro e_ w93_ ⟨vv0_, rfl, ho0_, hb⟩
                                          refine ⟨_, rfl, ?_⟩
                                          obtain ⟨Ao16_0, co16_0, ev_⟩ := Kd.R_slice ho0_
                                          subst ev_
                                          have n_ := Aside0.mk (HM.out.addR hb ho0_)
                                          clear HM
                                          have HM := n_
                                          clear n_
                                          clear hb ho0_
                                          refine hK.out _ _ (⟨(blk_cell (HM.out.box 15 rfl) 0).trans rfl, (blk_cell (HM.out.box 14 rfl) 0).trans rfl⟩) (fun hHeld => ?_)
                                          clear hK K
                                          refine norm_ (a' := ?_) ?_ ?_
                                          rotate_left
                                          · show Act.put _ (some 98) _ = _
                                            simp only [Act.put, List.setIfInBounds_toArray, List.set_cons_zero, List.set_cons_succ, i64_w, i32_w]
                                            rfl
                                          refine two_ (i := 4) (j := 8) (Ni := some 99) (Nj := some 15) #[true, true, true, true, true, false, false, false, false, false, false] #[true, true, true, true, false, false, false, false, true, false, false] rfl rfl rfl rfl (by kernel_rfl) (by decide) (by decide) (fun K hK => ?_) (fun K hK => ?_)
                                          · refine goes_ Try.func30 (by kernel_rfl) rfl #[.agg #[.slice Ao15_0 t124.length co15_0], .agg #[.slice Ao16_0 t125.length co16_0]] (by rfl) rfl rfl (by (try simp only [List.map_toArray, List.map_cons, List.map_nil]); first | done | rfl | (simp only [List.length_drop, List.length_take]; rfl)) ?_
                                            with_reducible refine (impl_OrFamily.calls k _ _ t124 _ _ t125 t126 t127 _ ?sd0 ?sd1 ?sd2 ?sd3 A90_.out).mono ?_
                                            (case sd0 => exact (Kd.R_reads' (HM.out.R (h1 := fun _ => rfl) 1 rfl)).2.2)
                                            (case sd1 => exact (Kd.R_reads' (HM.out.R (h1 := fun _ => rfl) 1 rfl)).2.1)
                                            (case sd2 => exact (Kd.R_reads' (HM.out.R (h1 := fun _ => rfl) 0 rfl)).2.2)
                                            (case sd3 => exact (Kd.R_reads' (HM.out.R (h1 := fun _ => rfl) 0 rfl)).2.1)
                                            rintro e_ w94_ ⟨vv0_, rfl, ho0_, hb⟩
                                            refine ⟨_, rfl, ?_⟩
                                            obtain ⟨Ao17_0, co17_0, ev_⟩ := Kd.R_slice ho0_
                                            subst ev_
                                            have n_ := Aside0.mk (HM.out.addR hb ho0_)
                                            clear HM
                                            have HM := n_
                                            clear n_
                                            clear hb ho0_
                                            refine hK.out _ _ (⟨(blk_cell (HM.out.box 16 rfl) 0).trans rfl, (blk_cell (HM.out.box 15 rfl) 0).trans rfl⟩) (fun hHeld => ?_)
                                            clear hK K
                                            refine norm_ (a' := ?_) ?_ ?_
                                            rotate_left
                                            · show Act.put _ (some 99) _ = _
                                              simp only [Act.put, List.setIfInBounds_toArray, List.set_cons_zero, List.set_cons_succ, i64_w, i32_w]
                                              rfl
                                            refine pure_ (i := 5) (N := some 94) (v := ?_) (a' := ?_) #[true, true, true, true, true, true, false, false, false, false, false] rfl rfl (by kernel_rfl) (fun _ _ _ h => h) (Or.inl ⟨by rfl, ?_⟩) ?_ ?_
                                            rotate_left
                                            · intro w'
                                              go_simp
                                              first | with_reducible rfl | (simp [Instr.field, asAgg, Go.part, run_underlying hu24, run_underlying hu35]; rfl) | rfl
                                            rotate_left
                                            · simp only [Act.put, List.setIfInBounds_toArray, List.set_cons_zero, List.set_cons_succ, i64_w, i32_w]
                                              rfl
                                            refine pure_ (i := 6) (N := some 100) (v := ?_) (a' := ?_) #[true, true, true, true, true, true, true, false, false, false, false] rfl rfl (by kernel_rfl) (fun _ _ _ h => h) (Or.inl ⟨by rfl, ?_⟩) ?_ ?_
                                            rotate_left
                                            · intro w'
                                              go_simp
                                              first | with_reducible rfl | (simp [Instr.field, asAgg, Go.part, run_underlying hu24, run_underlying hu35]; rfl) | rfl
                                            rotate_left
                                            · simp only [Act.put, List.setIfInBounds_toArray, List.set_cons_zero, List.set_cons_succ, i64_w, i32_w]
                                              rfl
                                            refine pure_ (i := 7) (N := some 101) (v := ?_) (a' := ?_) #[true, true, true, true, true, true, true, true, false, false, false] rfl rfl (by kernel_rfl) (fun _ _ _ h => h) (Or.inl ⟨by rfl, ?_⟩) ?_ ?_
                                            rotate_left
                                            · intro w'
                                              go_simp
                                              first | with_reducible rfl | (simp [Instr.field, asAgg, Go.part, run_underlying hu24, run_underlying hu35]; rfl) | rfl
                                            rotate_left
                                            · simp only [Act.put, List.setIfInBounds_toArray, List.set_cons_zero, List.set_cons_succ, i64_w, i32_w]
                                              rfl
                                            refine one_ (i := 8) (N := some 15) #[true, true, true, true, true, true, true, true, true, false, false] rfl rfl (by kernel_rfl) (by decide) (fun K hK => ?_)
                                            refine value_ (w1 := w94_.alloc (.cells #[.slice none 0 0] 24)) (v := .pointer (some ⟨w94_.heap.size, 0, none⟩)) (by rfl) rfl ?_ ?_
                                            · first | (go_simp; done) | (go_simp; rfl)
                                            obtain ⟨gb18, hgb_⟩ : ∃ g_ : Nat, g_ = w94_.heap.size := ⟨_, rfl⟩
                                            rw [← hgb_]
                                            obtain ⟨w95_, hw_⟩ : ∃ w_ : World, w_ = w94_.alloc (.cells #[.slice none 0 0] 24) := ⟨_, rfl⟩
                                            rw [← hw_]
                                            have hbx_ : w95_.heap[gb18]? = some (.cells #[.slice none 0 0] 24 (0, 0)) := by rw [hw_, hgb_]; exact blk_new _ _
                                            have hb : Below w94_.heap.size w94_ w95_ := by rw [hw_]; exact below_alloc (Below.refl _ _) _
                                            have n_ := Aside0.mk (HM.out.addBox hb hbx_ hgb_)
                                            clear HM
                                            have HM := n_
                                            clear n_
                                            clear hb hbx_ hgb_ hw_
                                            refine hK.out _ _ (⟨(blk_cell (HM.out.box 17 rfl) 0).trans rfl, (blk_cell (HM.out.box 16 rfl) 0).trans rfl⟩) (fun hHeld => ?_)
                                            clear hK K
                                            refine norm_ (a' := ?_) ?_ ?_
                                            rotate_left
                                            · show Act.put _ (some 15) _ = _
                                              simp only [Act.put, List.setIfInBounds_toArray, List.set_cons_zero, List.set_cons_succ, i64_w, i32_w]
                                              rfl
                                            have h_ := hC (Ao15_0, co15_0, Ao16_0, co16_0, Ao17_0, co17_0, gb18) w95_ (HM.out)
                                            simp only [putAll, Act.put, List.setIfInBounds_toArray, List.set_cons_zero, List.set_cons_succ] at h_
                                            exact h_
                                          · refine value_ (w1 := w93_.alloc (.cells #[.slice none 0 0] 24)) (v := .pointer (some ⟨w93_.heap.size, 0, none⟩)) (by rfl) rfl ?_ ?_
                                            · first | (go_simp; done) | (go_simp; rfl)
                                            obtain ⟨gb18, hgb_⟩ : ∃ g_ : Nat, g_ = w93_.heap.size := ⟨_, rfl⟩
                                            rw [← hgb_]
                                            obtain ⟨w96_, hw_⟩ : ∃ w_ : World, w_ = w93_.alloc (.cells #[.slice none 0 0] 24) := ⟨_, rfl⟩
                                            rw [← hw_]
                                            have hbx_ : w96_.heap[gb18]? = some (.cells #[.slice none 0 0] 24 (0, 0)) := by rw [hw_, hgb_]; exact blk_new _ _
                                            have hb : Below w93_.heap.size w93_ w96_ := by rw [hw_]; exact below_alloc (Below.refl _ _) _
                                            have n_ := Aside0.mk (HM.out.addBox hb hbx_ hgb_)
                                            clear HM
                                            have HM := n_
                                            clear n_
                                            clear hb hbx_ hgb_ hw_
                                            refine hK.out _ _ (⟨(blk_cell (HM.out.box 16 rfl) 0).trans rfl, (blk_cell (HM.out.box 15 rfl) 0).trans rfl⟩) (fun hHeld => ?_)
                                            clear hK K
                                            refine norm_ (a' := ?_) ?_ ?_
                                            rotate_left
                                            · show Act.put _ (some 15) _ = _
                                              simp only [Act.put, List.setIfInBounds_toArray, List.set_cons_zero, List.set_cons_succ, i64_w, i32_w]
                                              rfl
                                            refine one_ (i := 4) (N := some 99) #[true, true, true, true, true, false, false, false, true, false, false] rfl rfl (by kernel_rfl) (by decide) (fun K hK => ?_)
                                            refine goes_ Try.func30 (by kernel_rfl) rfl #[.agg #[.slice Ao15_0 t124.length co15_0], .agg #[.slice Ao16_0 t125.length co16_0]] (by rfl) rfl rfl (by (try simp only [List.map_toArray, List.map_cons, List.map_nil]); first | done | rfl | (simp only [List.length_drop, List.length_take]; rfl)) ?_
                                            with_reducible refine (impl_OrFamily.calls k _ _ t124 _ _ t125 t126 t127 _ ?sd0 ?sd1 ?sd2 ?sd3 A90_.out).mono ?_
                                            (case sd0 => exact (Kd.R_reads' (HM.out.R (h1 := fun _ => rfl) 2 rfl)).2.2)
                                            (case sd1 => exact (Kd.R_reads' (HM.out.R (h1 := fun _ => rfl) 2 rfl)).2.1)
                                            (case sd2 => exact (Kd.R_reads' (HM.out.R (h1 := fun _ => rfl) 1 rfl)).2.2)
                                            (case sd3 => exact (Kd.R_reads' (HM.out.R (h1 := fun _ => rfl) 1 rfl)).2.1)
                                            rintro e_ w97_ ⟨vv0_, rfl, ho0_, hb⟩
                                            refine ⟨_, rfl, ?_⟩
                                            obtain ⟨Ao17_0, co17_0, ev_⟩ := Kd.R_slice ho0_
                                            subst ev_
                                            have n_ := Aside0.mk (HM.out.addR hb ho0_)
                                            clear HM
                                            have HM := n_
                                            clear n_
                                            clear hb ho0_
                                            refine hK.out _ _ (⟨(blk_cell (HM.out.box 17 rfl) 0).trans rfl, (blk_cell (HM.out.box 16 rfl) 0).trans rfl⟩) (fun hHeld => ?_)
                                            clear hK K
                                            refine norm_ (a' := ?_) ?_ ?_
                                            rotate_left
                                            · show Act.put _ (some 99) _ = _
                                              simp only [Act.put, List.setIfInBounds_toArray, List.set_cons_zero, List.set_cons_succ, i64_w, i32_w]
                                              rfl
                                            refine pure_ (i := 5) (N := some 94) (v := ?_) (a' := ?_) #[true, true, true, true, true, true, false, false, true, false, false] rfl rfl (by kernel_rfl) (fun _ _ _ h => h) (Or.inl ⟨by rfl, ?_⟩) ?_ ?_
                                            rotate_left
                                            · intro w'
                                              go_simp
                                              first | with_reducible rfl | (simp [Instr.field, asAgg, Go.part, run_underlying hu24, run_underlying hu35]; rfl) | rfl
                                            rotate_left
                                            · simp only [Act.put, List.setIfInBounds_toArray, List.set_cons_zero, List.set_cons_succ, i64_w, i32_w]
                                              rfl
                                            refine pure_ (i := 6) (N := some 100) (v := ?_) (a' := ?_) #[true, true, true, true, true, true, true, false, true, false, false] rfl rfl (by kernel_rfl) (fun _ _ _ h => h) (Or.inl ⟨by rfl, ?_⟩) ?_ ?_
                                            rotate_left
                                            · intro w'
                                              go_simp
                                              first | with_reducible rfl | (simp [Instr.field, asAgg, Go.part, run_underlying hu24, run_underlying hu35]; rfl) | rfl
                                            rotate_left
                                            · simp only [Act.put, List.setIfInBounds_toArray, List.set_cons_zero, List.set_cons_succ, i64_w, i32_w]
                                              rfl
                                            refine pure_ (i := 7) (N := some 101) (v := ?_) (a' := ?_) #[true, true, true, true, true, true, true, true, true, false, false] rfl rfl (by kernel_rfl) (fun _ _ _ h => h) (Or.inl ⟨by rfl, ?_⟩) ?_ ?_
                                            rotate_left
                                            · intro w'
                                              go_simp
                                              first | with_reducible rfl | (simp [Instr.field, asAgg, Go.part, run_underlying hu24, run_underlying hu35]; rfl) | rfl
                                            rotate_left
                                            · simp only [Act.put, List.setIfInBounds_toArray, List.set_cons_zero, List.set_cons_succ, i64_w, i32_w]
                                              rfl
                                            have h_ := hC (Ao15_0, co15_0, Ao16_0, co16_0, Ao17_0, co17_0, gb18) w97_ (((HM.out.front 0 rfl).front 1 rfl))
                                            simp only [putAll, Act.put, List.setIfInBounds_toArray, List.set_cons_zero, List.set_cons_succ] at h_
                                            exact h_
                                        · refine value_ (w1 := w92_.alloc (.cells #[.slice none 0 0] 24)) (v := .pointer (some ⟨w92_.heap.size, 0, none⟩)) (by rfl) rfl ?_ ?_
                                          · first | (go_simp; done) | (go_simp; rfl)
                                          obtain ⟨gb18, hgb_⟩ : ∃ g_ : Nat, g_ = w92_.heap.size := ⟨_, rfl⟩
                                          rw [← hgb_]
                                          obtain ⟨w98_, hw_⟩ : ∃ w_ : World, w_ = w92_.alloc (.cells #[.slice none 0 0] 24) := ⟨_, rfl⟩
                                          rw [← hw_]
                                          have hbx_ : w98_.heap[gb18]? = some (.cells #[.slice none 0 0] 24 (0, 0)) := by rw [hw_, hgb_]; exact blk_new _ _
                                          have hb : Below w92_.heap.size w92_ w98_ := by rw [hw_]; exact below_alloc (Below.refl _ _) _
                                          have n_ := Aside0.mk (HM.out.addBox hb hbx_ hgb_)
                                          clear HM
                                          have HM := n_
                                          clear n_
                                          clear hb hbx_ hgb_ hw_
                                          refine hK.out _ _ (⟨(blk_cell (HM.out.box 15 rfl) 0).trans rfl, (blk_cell (HM.out.box 14 rfl) 0).trans rfl⟩) (fun hHeld => ?_)
                                          clear hK K
                                          refine norm_ (a' := ?_) ?_ ?_
                                          rotate_left
                                          · show Act.put _ (some 15) _ = _
                                            simp only [Act.put, List.setIfInBounds_toArray, List.set_cons_zero, List.set_cons_succ, i64_w, i32_w]
                                            rfl
                                          refine one_ (i := 3) (N := some 98) #[true, true, true, true, false, false, false, false, true, false, false] rfl rfl (by kernel_rfl) (by decide) (fun K hK => ?_)
                                          refine goes_ Try.func23 (by kernel_rfl) rfl #[.agg #[.slice A1_0 l1_0.length c1_0]] (by rfl) rfl rfl (by (try simp only [List.map_toArray, List.map_cons, List.map_nil]); first | done | rfl | (simp only [List.length_drop, List.length_take]; rfl)) ?_
                                          with_reducible refine (laws_toFamily.calls k _ _ l1_0 t125 _ ?sd0 ?sd1 A89_.out).mono ?_
                                          (case sd0 => exact (Kd.C_below HR1_0.out HM.out.below))
                                          (case sd1 => exact HC1_0.out)
                                          rintro e_ w99_ ⟨vv0_, rfl, ho0_, hb⟩
                                          refine ⟨_, rfl, ?_⟩
                                          obtain ⟨Ao16_0, co16_0, ev_⟩ := Kd.R_slice ho0_
                                          subst ev_
                                          have n_ := Aside0.mk (HM.out.addR hb ho0_)
                                          clear HM
                                          have HM := n_
                                          clear n_
                                          clear hb ho0_
                                          refine hK.out _ _ (⟨(blk_cell (HM.out.box 16 rfl) 0).trans rfl, (blk_cell (HM.out.box 15 rfl) 0).trans rfl⟩) (fun hHeld => ?_)
                                          clear hK K
                                          refine norm_ (a' := ?_) ?_ ?_
                                          rotate_left
                                          · show Act.put _ (some 98) _ = _
                                            simp only [Act.put, List.setIfInBounds_toArray, List.set_cons_zero, List.set_cons_succ, i64_w, i32_w]
                                            rfl
                                          refine one_ (i := 4) (N := some 99) #[true, true, true, true, true, false, false, false, true, false, false] rfl rfl (by kernel_rfl) (by decide) (fun K hK => ?_)
                                          refine goes_ Try.func30 (by kernel_rfl) rfl #[.agg #[.slice Ao15_0 t124.length co15_0], .agg #[.slice Ao16_0 t125.length co16_0]] (by rfl) rfl rfl (by (try simp only [List.map_toArray, List.map_cons, List.map_nil]); first | done | rfl | (simp only [List.length_drop, List.length_take]; rfl)) ?_
                                          with_reducible refine (impl_OrFamily.calls k _ _ t124 _ _ t125 t126 t127 _ ?sd0 ?sd1 ?sd2 ?sd3 A90_.out).mono ?_
                                          (case sd0 => exact (Kd.R_reads' (HM.out.R (h1 := fun _ => rfl) 2 rfl)).2.2)
                                          (case sd1 => exact (Kd.R_reads' (HM.out.R (h1 := fun _ => rfl) 2 rfl)).2.1)
                                          (case sd2 => exact (Kd.R_reads' (HM.out.R (h1 := fun _ => rfl) 0 rfl)).2.2)
                                          (case sd3 => exact (Kd.R_reads' (HM.out.R (h1 := fun _ => rfl) 0 rfl)).2.1)
                                          rintro e_ w100_ ⟨vv0_, rfl, ho0_, hb⟩
                                          refine ⟨_, rfl, ?_⟩
                                          obtain ⟨Ao17_0, co17_0, ev_⟩ := Kd.R_slice ho0_
                                          subst ev_
                                          have n_ := Aside0.mk (HM.out.addR hb ho0_)
                                          clear HM
                                          have HM := n_
                                          clear n_
                                          clear hb ho0_
                                          refine hK.out _ _ (⟨(blk_cell (HM.out.box 17 rfl) 0).trans rfl, (blk_cell (HM.out.box 16 rfl) 0).trans rfl⟩) (fun hHeld => ?_)
                                          clear hK K
                                          refine norm_ (a' := ?_) ?_ ?_
                                          rotate_left
                                          · show Act.put _ (some 99) _ = _
                                            simp only [Act.put, List.setIfInBounds_toArray, List.set_cons_zero, List.set_cons_succ, i64_w, i32_w]
                                            rfl
                                          refine pure_ (i := 5) (N := some 94) (v := ?_) (a' := ?_) #[true, true, true, true, true, true, false, false, true, false, false] rfl rfl (by kernel_rfl) (fun _ _ _ h => h) (Or.inl ⟨by rfl, ?_⟩) ?_ ?_
                                          rotate_left
                                          · intro w'
                                            go_simp
                                            first | with_reducible rfl | (simp [Instr.field, asAgg, Go.part, run_underlying hu24, run_underlying hu35]; rfl) | rfl
                                          rotate_left
                                          · simp only [Act.put, List.setIfInBounds_toArray, List.set_cons_zero, List.set_cons_succ, i64_w, i32_w]
                                            rfl
                                          refine pure_ (i := 6) (N := some 100) (v := ?_) (a' := ?_) #[true, true, true, true, true, true, true, false, true, false, false] rfl rfl (by kernel_rfl) (fun _ _ _ h => h) (Or.inl ⟨by rfl, ?_⟩) ?_ ?_
                                          rotate_left
                                          · intro w'
                                            go_simp
                                            first | with_reducible rfl | (simp [Instr.field, asAgg, Go.part, run_underlying hu24, run_underlying hu35]; rfl) | rfl
                                          rotate_left
                                          · simp only [Act.put, List.setIfInBounds_toArray, List.set_cons_zero, List.set_cons_succ, i64_w, i32_w]
                                            rfl
                                          refine pure_ (i := 7) (N := some 101) (v := ?_) (a' := ?_) #[true, true, true, true, true, true, true, true, true, false, false] rfl rfl (by kernel_rfl) (fun _ _ _ h => h) (Or.inl ⟨by rfl, ?_⟩) ?_ ?_
                                          rotate_left
                                          · intro w'
                                            go_simp
                                            first | with_reducible rfl | (simp [Instr.field, asAgg, Go.part, run_underlying hu24, run_underlying hu35]; rfl) | rfl
                                          rotate_left
                                          · simp only [Act.put, List.setIfInBounds_toArray, List.set_cons_zero, List.set_cons_succ, i64_w, i32_w]
                                            rfl
                                          have h_ := hC (Ao15_0, co15_0, Ao16_0, co16_0, Ao17_0, co17_0, gb18) w100_ ((((HM.out.front 1 rfl).front 1 rfl).front 2 rfl))
                                          simp only [putAll, Act.put, List.setIfInBounds_toArray, List.set_cons_zero, List.set_cons_succ] at h_
                                          exact h_
                                      · refine value_ (w1 := w91_.alloc (.cells #[.slice none 0 0] 24)) (v := .pointer (some ⟨w91_.heap.size, 0, none⟩)) (by rfl) rfl ?_ ?_
                                        · first | (go_simp; done) | (go_simp; rfl)
                                        obtain ⟨gb18, hgb_⟩ : ∃ g_ : Nat, g_ = w91_.heap.size := ⟨_, rfl⟩
                                        rw [← hgb_]
                                        obtain ⟨w101_, hw_⟩ : ∃ w_ : World, w_ = w91_.alloc (.cells #[.slice none 0 0] 24) := ⟨_, rfl⟩
                                        rw [← hw_]
                                        have hbx_ : w101_.heap[gb18]? = some (.cells #[.slice none 0 0] 24 (0, 0)) := by rw [hw_, hgb_]; exact blk_new _ _
                                        have hb : Below w91_.heap.size w91_ w101_ := by rw [hw_]; exact below_alloc (Below.refl _ _) _
                                        have n_ := Aside0.mk (HM.out.addBox hb hbx_ hgb_)
                                        clear HM
                                        have HM := n_
                                        clear n_
                                        clear hb hbx_ hgb_ hw_
                                        refine hK.out _ _ (⟨(blk_cell (HM.out.box 14 rfl) 0).trans rfl, (blk_cell (HM.out.box 13 rfl) 0).trans rfl⟩) (fun hHeld => ?_)
                                        clear hK K
                                        refine norm_ (a' := ?_) ?_ ?_
                                        rotate_left
                                        · show Act.put _ (some 15) _ = _
                                          simp only [Act.put, List.setIfInBounds_toArray, List.set_cons_zero, List.set_cons_succ, i64_w, i32_w]
                                          rfl
                                        refine one_ (i := 1) (N := some 96) #[true, true, true, false, false, false, false, false, true, false, false] rfl rfl (by kernel_rfl) (by decide) (fun K hK => ?_)
                                        refine goes_ Try.func23 (by kernel_rfl) rfl #[.agg #[.slice A0_0 l0_0.length c0_0]] (by rfl) rfl rfl (by (try simp only [List.map_toArray, List.map_cons, List.map_nil]); first | done | rfl | (simp only [List.length_drop, List.length_take]; rfl)) ?_
                                        with_reducible refine (laws_toFamily.calls k _ _ l0_0 t124 _ ?sd0 ?sd1 A88_.out).mono ?_
                                        (case sd0 => exact (Kd.C_below HR0_0.out HM.out.below))
                                        (case sd1 => exact HC0_0.out)
                                        rintro e_ w102_ ⟨vv0_, rfl, ho0_, hb⟩
                                        refine ⟨_, rfl, ?_⟩
                                        obtain ⟨Ao15_0, co15_0, ev_⟩ := Kd.R_slice ho0_
                                        subst ev_
                                        have n_ := Aside0.mk (HM.out.addR hb ho0_)
                                        clear HM
                                        have HM := n_
                                        clear n_
                                        clear hb ho0_
                                        refine hK.out _ _ (⟨(blk_cell (HM.out.box 15 rfl) 0).trans rfl, (blk_cell (HM.out.box 14 rfl) 0).trans rfl⟩) (fun hHeld => ?_)
                                        clear hK K
                                        refine norm_ (a' := ?_) ?_ ?_
                                        rotate_left
                                        · show Act.put _ (some 96) _ = _
                                          simp only [Act.put, List.setIfInBounds_toArray, List.set_cons_zero, List.set_cons_succ, i64_w, i32_w]
                                          rfl
                                        refine one_ (i := 3) (N := some 98) #[true, true, true, true, false, false, false, false, true, false, false] rfl rfl (by kernel_rfl) (by decide) (fun K hK => ?_)
                                        refine goes_ Try.func23 (by kernel_rfl) rfl #[.agg #[.slice A1_0 l1_0.length c1_0]] (by rfl) rfl rfl (by (try simp only [List.map_toArray, List.map_cons, List.map_nil]); first | done | rfl | (simp only [List.length_drop, List.length_take]; rfl)) ?_
                                        with_reducible refine (laws_toFamily.calls k _ _ l1_0 t125 _ ?sd0 ?sd1 A89_.out).mono ?_
                                        (case sd0 => exact (Kd.C_below HR1_0.out HM.out.below))
                                        (case sd1 => exact HC1_0.out)
                                        rintro e_ w103_ ⟨vv0_, rfl, ho0_, hb⟩
                                        refine ⟨_, rfl, ?_⟩
                                        obtain ⟨Ao16_0, co16_0, ev_⟩ := Kd.R_slice ho0_
                                        subst ev_
                                        have n_ := Aside0.mk (HM.out.addR hb ho0_)
                                        clear HM
                                        have HM := n_
                                        clear n_
                                        clear hb ho0_
                                        refine hK.out _ _ (⟨(blk_cell (HM.out.box 16 rfl) 0).trans rfl, (blk_cell (HM.out.box 15 rfl) 0).trans rfl⟩) (fun hHeld => ?_)
                                        clear hK K
                                        refine norm_ (a' := ?_) ?_ ?_
                                        rotate_left
                                        · show Act.put _ (some 98) _ = _
                                          simp only [Act.put, List.setIfInBounds_toArray, List.set_cons_zero, List.set_cons_succ, i64_w, i32_w]
                                          rfl
                                        refine one_ (i := 4) (N := some 99) #[true, true, true, true, true, false, false, false, true, false, false] rfl rfl (by kernel_rfl) (by decide) (fun K hK => ?_)
                                        refine goes_ Try.func30 (by kernel_rfl) rfl #[.agg #[.slice Ao15_0 t124.length co15_0], .agg #[.slice Ao16_0 t125.length co16_0]] (by rfl) rfl rfl (by (try simp only [List.map_toArray, List.map_cons, List.map_nil]); first | done | rfl | (simp only [List.length_drop, List.length_take]; rfl)) ?_
                                        with_reducible refine (impl_OrFamily.calls k _ _ t124 _ _ t125 t126 t127 _ ?sd0 ?sd1 ?sd2 ?sd3 A90_.out).mono ?_
                                        (case sd0 => exact (Kd.R_reads' (HM.out.R (h1 := fun _ => rfl) 1 rfl)).2.2)
                                        (case sd1 => exact (Kd.R_reads' (HM.out.R (h1 := fun _ => rfl) 1 rfl)).2.1)
                                        (case sd2 => exact (Kd.R_reads' (HM.out.R (h1 := fun _ => rfl) 0 rfl)).2.2)
                                        (case sd3 => exact (Kd.R_reads' (HM.out.R (h1 := fun _ => rfl) 0 rfl)).2.1)
                                        rintro e_ w104_ ⟨vv0_, rfl, ho0_, hb⟩
                                        refine ⟨_, rfl, ?_⟩
                                        obtain ⟨Ao17_0, co17_0, ev_⟩ := Kd.R_slice ho0_
                                        subst ev_
                                        have n_ := Aside0.mk (HM.out.addR hb ho0_)
                                        clear HM
                                        have HM := n_
                                        clear n_
                                        clear hb ho0_
                                        refine hK.out _ _ (⟨(blk_cell (HM.out.box 17 rfl) 0).trans rfl, (blk_cell (HM.out.box 16 rfl) 0).trans rfl⟩) (fun hHeld => ?_)
                                        clear hK K
                                        refine norm_ (a' := ?_) ?_ ?_
                                        rotate_left
                                        · show Act.put _ (some 99) _ = _
                                          simp only [Act.put, List.setIfInBounds_toArray, List.set_cons_zero, List.set_cons_succ, i64_w, i32_w]
                                          rfl
                                        refine pure_ (i := 5) (N := some 94) (v := ?_) (a' := ?_) #[true, true, true, true, true, true, false, false, true, false, false] rfl rfl (by kernel_rfl) (fun _ _ _ h => h) (Or.inl ⟨by rfl, ?_⟩) ?_ ?_
                                        rotate_left
                                        · intro w'
                                          go_simp
                                          first | with_reducible rfl | (simp [Instr.field, asAgg, Go.part, run_underlying hu24, run_underlying hu35]; rfl) | rfl
                                        rotate_left
                                        · simp only [Act.put, List.setIfInBounds_toArray, List.set_cons_zero, List.set_cons_succ, i64_w, i32_w]
                                          rfl
                                        refine pure_ (i := 6) (N := some 100) (v := ?_) (a' := ?_) #[true, true, true, true, true, true, true, false, true, false, false] rfl rfl (by kernel_rfl) (fun _ _ _ h => h) (Or.inl ⟨by rfl, ?_⟩) ?_ ?_
                                        rotate_left
                                        · intro w'
                                          go_simp
                                          first | with_reducible rfl | (simp [Instr.field, asAgg, Go.part, run_underlying hu24, run_underlying hu35]; rfl) | rfl
                                        rotate_left
                                        · simp only [Act.put, List.setIfInBounds_toArray, List.set_cons_zero, List.set_cons_succ, i64_w, i32_w]
                                          rfl
                                        refine pure_ (i := 7) (N := some 101) (v := ?_) (a' := ?_) #[true, true, true, true, true, true, true, true, true, false, false] rfl rfl (by kernel_rfl) (fun _ _ _ h => h) (Or.inl ⟨by rfl, ?_⟩) ?_ ?_
                                        rotate_left
                                        · intro w'
                                          go_simp
                                          first | with_reducible rfl | (simp [Instr.field, asAgg, Go.part, run_underlying hu24, run_underlying hu35]; rfl) | rfl
                                        rotate_left
                                        · simp only [Act.put, List.setIfInBounds_toArray, List.set_cons_zero, List.set_cons_succ, i64_w, i32_w]
                                          rfl
                                        have h_ := hC (Ao15_0, co15_0, Ao16_0, co16_0, Ao17_0, co17_0, gb18) w104_ (((((HM.out.front 2 rfl).front 2 rfl).front 2 rfl).front 3 rfl))
                                        simp only [putAll, Act.put, List.setIfInBounds_toArray, List.set_cons_zero, List.set_cons_succ] at h_
                                        exact h_
                                    · rintro ⟨Ao15_0, co15_0, Ao16_0, co16_0, Ao17_0, co17_0, gb18⟩ w105_ hm_
                                      have n_ := Aside0.mk (show MS w w105_ [.box gb18 24 #[.slice none 0 0], .row 3 (.slice Ao17_0 t126.length co17_0) (encs (Value.int .i64) t126), .row 3 (.slice Ao16_0 t125.length co16_0) (encs (Value.int .i64) t125), .row 3 (.slice Ao15_0 t124.length co15_0) (encs (Value.int .i64) t124), .row 3 (.slice Ao14_0 t114.length co14_0) (encs (Value.int .i64) t114), .row 3 (.slice Ao13_0 t112.length co13_0) (encs (Value.int .i64) t112), .box gb12 24 #[.slice Ao11_0 t122.length co11_0], .row 3 (.slice Ao11_0 t122.length co11_0) (encs (Value.int .i64) t122), .box gb10 24 #[.slice Ao9_0 t119.length co9_0], .row 3 (.slice Ao9_0 t119.length co9_0) (encs (Value.int .i64) t119), .box gb8 24 #[.slice Ao7_0 t117.length co7_0], .row 3 (.slice Ao7_0 t117.length co7_0) (encs (Value.int .i64) t117), .box gb6 24 #[.slice Ao5_0 t105.length co5_0], .row 3 (.slice Ao5_0 t105.length co5_0) (encs (Value.int .i64) t105), .row 3 (.slice Ao4_0 t104.length co4_0) (encs (Value.int .i64) t104), .row 3 (.slice Ao3_0 t103.length co3_0) (encs (Value.int .i64) t103), .box gb2 35 #[.slice A1_0 l1_0.length c1_0], .box gb1 35 #[.slice A0_0 l0_0.length c0_0]] from hm_)
                                      clear HM
                                      have HM := n_
                                      clear n_
                                      clear hm_
                                      have hHeld : (w105_.cell? ⟨gb1, 0, none⟩ = some (.slice A0_0 l0_0.length c0_0)) ∧ (w105_.cell? ⟨gb2, 0, none⟩ = some (.slice A1_0 l1_0.length c1_0)) := ⟨(blk_cell (HM.out.box 17 rfl) 0).trans rfl, (blk_cell (HM.out.box 16 rfl) 0).trans rfl⟩
                                      refine norm_ (a' := ?_) ?_ ?_
                                      rotate_left
                                      · simp only [putAll, Act.put, List.setIfInBounds_toArray, List.set_cons_zero, List.set_cons_succ]
                                        rfl
                                      have hcz107_0 : w105_.cell? ⟨gb18, 0, none⟩ = some (.slice none 0 0) := (blk_cell (HM.out.box 0 rfl) 0).trans rfl
                                      have hfz107_0 := blk_frozen (HM.out.box 0 rfl) 0
                                      refine last_ (i := 9) (N := none) #[true, true, true, true, true, true, true, true, true, true, false] rfl rfl (by kernel_rfl) (by decide) (fun K hK => ?_)
                                      refine skip_ (w1 := w105_.setCell ⟨gb18, 0, none⟩ (.slice Ao17_0 t126.length co17_0)) (by rfl) rfl ?_ ?_
                                      · first | (go_simp; done) | (go_simp; rfl)
                                      generalize hw : w105_.setCell ⟨gb18, 0, none⟩ (.slice Ao17_0 t126.length co17_0) = w106_
                                      have n_ : Aside0 (MS w w106_ [.box gb18 24 #[.slice Ao17_0 t126.length co17_0], .row 3 (.slice Ao17_0 t126.length co17_0) (encs (Value.int .i64) t126), .row 3 (.slice Ao16_0 t125.length co16_0) (encs (Value.int .i64) t125), .row 3 (.slice Ao15_0 t124.length co15_0) (encs (Value.int .i64) t124), .row 3 (.slice Ao14_0 t114.length co14_0) (encs (Value.int .i64) t114), .row 3 (.slice Ao13_0 t112.length co13_0) (encs (Value.int .i64) t112), .box gb12 24 #[.slice Ao11_0 t122.length co11_0], .row 3 (.slice Ao11_0 t122.length co11_0) (encs (Value.int .i64) t122), .box gb10 24 #[.slice Ao9_0 t119.length co9_0], .row 3 (.slice Ao9_0 t119.length co9_0) (encs (Value.int .i64) t119), .box gb8 24 #[.slice Ao7_0 t117.length co7_0], .row 3 (.slice Ao7_0 t117.length co7_0) (encs (Value.int .i64) t117), .box gb6 24 #[.slice Ao5_0 t105.length co5_0], .row 3 (.slice Ao5_0 t105.length co5_0) (encs (Value.int .i64) t105), .row 3 (.slice Ao4_0 t104.length co4_0) (encs (Value.int .i64) t104), .row 3 (.slice Ao3_0 t103.length co3_0) (encs (Value.int .i64) t103), .box gb2 35 #[.slice A1_0 l1_0.length c1_0], .box gb1 35 #[.slice A0_0 l0_0.length c0_0]]) := ⟨by rw [← hw]; exact HM.out.setBox 0 rfl _ _ rfl⟩
                                      clear HM hw
                                      have HM := n_
                                      clear n_
                                      refine hK.out _ _ ?_
                                      clear hK K
                                      refine pure_ (i := 10) (N := some 16) (v := ?_) (a' := ?_) #[true, true, true, true, true, true, true, true, true, true, true] rfl rfl (by kernel_rfl) (fun _ _ _ h => h) (Or.inl ⟨by rfl, ?_⟩) ?_ ?_
                                      rotate_left
                                      · intro w'
                                        go_simp
                                        first | with_reducible rfl | (simp [Instr.field, asAgg, Go.part, run_underlying hu24, run_underlying hu35]; rfl) | rfl
                                      rotate_left
                                      · simp only [Act.put, List.setIfInBounds_toArray, List.set_cons_zero, List.set_cons_succ, i64_w, i32_w]
                                        rfl
                                      refine done_ (by kernel_rfl) ?_
                                      have H := H'.out
                                      clear H'
                                      replace H := Option.bind_eq_some_iff.mp H
                                      obtain ⟨t128, A108_0, H⟩ := H
                                      replace H : (if t128 = true then (if (t127 != t106) = true then (some false) else ((laws_heldFamily.f k t122 1).bind fun t129 => (if t129 < 0 then (some false) else (if t129 = t121 then (some true) else (some false))))) else (some false)) = some r := H
                                      have A108_ := Aside0.mk A108_0
                                      clear A108_0
                                      have H' := Aside0.mk H
                                      clear H
                                      have hcz109_0 : w106_.cell? ⟨gb18, 0, none⟩ = some (.slice Ao17_0 t126.length co17_0) := (blk_cell (HM.out.box 0 rfl) 0).trans rfl
                                      have hfz109_0 := blk_frozen (HM.out.box 0 rfl) 0
                                      have hcz110_0 : w106_.cell? ⟨gb6, 0, none⟩ = some (.slice Ao5_0 t105.length co5_0) := (blk_cell (HM.out.box 12 rfl) 0).trans rfl
                                      have hfz110_0 := blk_frozen (HM.out.box 12 rfl) 0
                                      go_wp2_with (first | ((with_reducible refine gate_callee (f := 14) rfl ?_); (with_reducible refine gate_dst (N := 104) rfl ?_); refine goesL_ (some 104) rfl rfl Try.func14 (by kernel_rfl) rfl #[.agg #[.slice Ao17_0 t126.length co17_0], .agg #[.slice Ao5_0 t105.length co5_0]] rfl (by (try simp only [List.map_toArray, List.map_cons, List.map_nil]); first | done | rfl | (simp only [List.length_drop, List.length_take]; rfl)) ?_; (with_reducible refine (laws_eqFamily.calls k _ _ t126 _ _ t105 t128 _ ?sd0 ?sd1 ?sd2 ?sd3 A108_.out).mono ?_); (case sd0 => exact (Kd.R_reads' (HM.out.R (h1 := fun _ => rfl) 1 rfl)).2.2); (case sd1 => exact (Kd.R_reads' (HM.out.R (h1 := fun _ => rfl) 1 rfl)).2.1); (case sd2 => exact (Kd.R_reads' (HM.out.R (h1 := fun _ => rfl) 13 rfl)).2.2); (case sd3 => exact (Kd.R_reads' (HM.out.R (h1 := fun _ => rfl) 13 rfl)).2.1); rintro e_ w111_ ⟨rfl, hb⟩; refine ⟨_, rfl, ?_⟩; have n_ := Aside0.mk (HM.out.step hb); clear HM; have HM := n_; clear n_; clear hb; refine id ?roundEnd))
                                      case roundEnd =>
                                        have H := H'.out
                                        clear H'
                                        by_cases c112_ : t128 = true
                                        · subst c112_
                                          have H1 : (if (t127 != t106) = true then (some false) else ((laws_heldFamily.f k t122 1).bind fun t129 => (if t129 < 0 then (some false) else (if t129 = t121 then (some true) else (some false))))) = some r := by rw [if_pos rfl] at H; exact H
                                          clear H
                                          have H := H1
                                          clear H1
                                          by_cases c113_ : (t127 != t106) = true
                                          · rw [if_pos c113_] at H
                                            have c113_b0 : (t127 != t106) = true := by simpa using c113_
                                            have c113_b1 : (t127 == t106) = false := by simpa using c113_
                                            have c113_b2 : (t127 = t106) = False := eq_false (by simpa using c113_)
                                            clear c113_
                                            obtain rfl := Option.some.inj H
                                            go_wp2
                                            go_ret
                                            exact ⟨by first | rfl | (simp; done) | (simp [*]; done), HM.out.below⟩
                                          · rw [if_neg c113_] at H
                                            have c113_b0 : (t127 != t106) = false := by simpa using c113_
                                            have c113_b1 : (t127 == t106) = true := by simpa using c113_
                                            have c113_b2 : (t127 = t106) = True := eq_true (by simpa using c113_)
                                            clear c113_
                                            replace H := Option.bind_eq_some_iff.mp H
                                            obtain ⟨t129, A114_0, H⟩ := H
                                            replace H : (if t129 < 0 then (some false) else (if t129 = t121 then (some true) else (some false))) = some r := H
                                            have A114_ := Aside0.mk A114_0
                                            clear A114_0
                                            have H' := Aside0.mk H
                                            clear H
                                            have hcz115_0 : w111_.cell? ⟨gb12, 0, none⟩ = some (.slice Ao11_0 t122.length co11_0) := (blk_cell (HM.out.box 6 rfl) 0).trans rfl
                                            have hfz115_0 := blk_frozen (HM.out.box 6 rfl) 0
                                            go_wp2_with (first | ((with_reducible refine gate_callee (f := 18) rfl ?_); (with_reducible refine gate_dst (N := 113) rfl ?_); refine goesL_ (some 113) rfl rfl Try.func18 (by kernel_rfl) rfl #[.agg #[.slice Ao11_0 t122.length co11_0], .int .i64 1] rfl (by (try simp only [List.map_toArray, List.map_cons, List.map_nil]); first | done | rfl | (simp only [List.length_drop, List.length_take]; rfl)) ?_; (with_reducible refine (laws_heldFamily.calls k _ _ t122 1 t129 _ ?sd0 ?sd1 A114_.out).mono ?_); (case sd0 => exact (Kd.R_reads' (HM.out.R (h1 := fun _ => rfl) 7 rfl)).2.2); (case sd1 => exact (Kd.R_reads' (HM.out.R (h1 := fun _ => rfl) 7 rfl)).2.1); rintro e_ w116_ ⟨rfl, hb⟩; refine ⟨_, rfl, ?_⟩; have n_ := Aside0.mk (HM.out.step hb); clear HM; have HM := n_; clear n_; clear hb; refine id ?roundEnd))
                                            case roundEnd =>
                                              have H := H'.out
                                              clear H'
                                              by_cases c117_ : t129 < 0
                                              · rw [if_pos c117_] at H
                                                have c117_b0 : decide (t129 < 0) = true := decide_eq_true c117_
                                                clear c117_
                                                obtain rfl := Option.some.inj H
                                                go_wp2
                                                go_ret
                                                exact ⟨by first | rfl | (simp; done) | (simp [*]; done), HM.out.below⟩
                                              · rw [if_neg c117_] at H
                                                have c117_b0 : decide (t129 < 0) = false := decide_eq_false c117_
                                                clear c117_
                                                by_cases c118_ : t129 = t121
                                                · rw [if_pos c118_] at H
                                                  have c118_b0 : (t129 == t121) = true := beq_iff_eq.mpr c118_
                                                  have c118_b1 : (t129 != t121) = false := bne_eq_false_iff_eq.mpr c118_
                                                  clear c118_
                                                  obtain rfl := Option.some.inj H
                                                  go_wp2
                                                  go_ret
                                                  exact ⟨by first | rfl | (simp; done) | (simp [*]; done), HM.out.below⟩
                                                · rw [if_neg c118_] at H
                                                  have c118_b0 : (t129 == t121) = false := beq_eq_false_iff_ne.mpr c118_
                                                  have c118_b1 : (t129 != t121) = true := bne_iff_ne.mpr c118_
                                                  clear c118_
                                                  obtain rfl := Option.some.inj H
                                                  go_wp2
                                                  go_ret
                                                  exact ⟨by first | rfl | (simp; done) | (simp [*]; done), HM.out.below⟩
                                        · replace c112_ := Bool.eq_false_iff.mpr c112_
                                          subst c112_
                                          have H1 : (some false) = some r := by rw [if_neg (show ¬ (false = true) by decide)] at H; exact H
                                          clear H
                                          have H := H1
                                          clear H1
                                          obtain rfl := Option.some.inj H
                                          go_wp2
                                          go_ret
                                          exact ⟨by first | rfl | (simp; done) | (simp [*]; done), HM.out.below⟩
                                  · rw [if_neg c87_] at H
                                    have c87_b0 : (t123 == t121) = false := beq_eq_false_iff_ne.mpr c87_
                                    have c87_b1 : (t123 != t121) = true := bne_iff_ne.mpr c87_
                                    clear c87_
                                    obtain rfl := Option.some.inj H
                                    go_wp2
                                    go_ret
                                    exact ⟨by first | rfl | (simp; done) | (simp [*]; done), HM.out.below⟩
                            · replace c79_ := Bool.eq_false_iff.mpr c79_
                              subst c79_
                              have H1 : (some false) = some r := by rw [if_neg (show ¬ (false = true) by decide)] at H; exact H
                              clear H
                              have H := H1
                              clear H1
                              obtain rfl := Option.some.inj H
                              go_wp2
                              go_ret
                              exact ⟨by first | rfl | (simp; done) | (simp [*]; done), HM.out.below⟩
                    · replace c67_ := Bool.eq_false_iff.mpr c67_
                      subst c67_
                      have H1 : (some false) = some r := by rw [if_neg (show ¬ (false = true) by decide)] at H; exact H
                      clear H
                      have H := H1
                      clear H1
                      obtain rfl := Option.some.inj H
                      go_wp2
                      go_ret
                      exact ⟨by first | rfl | (simp; done) | (simp [*]; done), HM.out.below⟩
                  · replace c61_ := Bool.eq_false_iff.mpr c61_
                    subst c61_
                    have H1 : (some false) = some r := by rw [if_neg (show ¬ (false = true) by decide)] at H; exact H
                    clear H
                    have H := H1
                    clear H1
                    obtain rfl := Option.some.inj H
                    go_wp2
                    go_ret
                    exact ⟨by first | rfl | (simp; done) | (simp [*]; done), HM.out.below⟩
              · replace c54_ := Bool.eq_false_iff.mpr c54_
                subst c54_
                have H1 : (some false) = some r := by rw [if_neg (show ¬ (false = true) by decide)] at H; exact H
                clear H
                have H := H1
                clear H1
                obtain rfl := Option.some.inj H
                go_wp2
                go_ret
                exact ⟨by first | rfl | (simp; done) | (simp [*]; done), HM.out.below⟩

end Go.Proofs.Ytncdgimmalifjaa.Q
