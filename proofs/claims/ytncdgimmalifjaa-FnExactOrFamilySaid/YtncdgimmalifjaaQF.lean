-- Written by a program of this session's own (wip/wgen.py): what functions of the program compute, and that they do.
import Derived.Below
import Derived.Deep.Draws
import Derived.Deep.AppendLies
import Derived.Maps.AppendAt
import Derived.OwnWalk
import Derived.Laws.BytesArg
import Derived.Laws.MakeOwn
import Derived.Laws.OwnMore
import Derived.Deep.OwnRows
import Derived.Tactics
import Derived.Lib.ConvBytes
import Derived.Laws.Slices
import Derived.WalkKit
import Derived.KernelRfl
import Derived.RowKit3
import Derived.Deep.LoopGhost
import Derived.Deep.QuietTactic
import Derived.BigQuiet
import Derived.WideLaws
import Derived.Deep.DeepCutAuto
import Derived.Deep.CutBlock
import Derived.Deep.RegionHeld3
import Derived.Laws.Rows
import Derived.Lib.AppendStr
import Derived.ArgAppend
import Derived.Laws.IdiomCopy
import Derived.OrdersHeld
import Derived.Laws.BitsLemmas
import Derived.RowKit
import Derived.Test.YtncdgimmalifjaaHM
import Derived.Test.YtncdgimmalifjaaRG
import Derived.Test.YtncdgimmalifjaaProg
import Derived.Test.YtncdgimmalifjaaKL1
import Derived.Test.YtncdgimmalifjaaQA
import Derived.Test.YtncdgimmalifjaaQB
namespace Go.Proofs.Ytncdgimmalifjaa.Q
open Go.RowKit Go.Proofs.YtncdgimmalifjaaW.PrintWords Go.Proofs.YtncdgimmalifjaaW.PrintLast Go.Proofs.YtncdgimmalifjaaW.PrintMore Go.Proofs.YtncdgimmalifjaaM Go.Proofs.Ytncdgimmalifjaa.KL
attribute [local go_sem] max2_int min2_int max_two min_two max_three min_three max_four min_four
set_option linter.unusedVariables false
set_option linter.unusedSimpArgs false

/-! ### spec_l5Both: function 55 -/
def spec_l5Both.l0 : Nat → (Bool) → (Int) → (List Bool) → (List Bool) → Option (List Int × Bool)
  | 0, _, _, _, _ => none
  | k + 1, x2, x10, m5, m4 => if x10 < 64 then (if x2 = true then (if 0 ≤ x10 then (if rdOf false m4 x10 = true then (spec_l5Both.l0 k x2 (wrap64 (x10 + 1)) m5 (m4.set (x10 : Int).toNat (rdOf false m5 x10))) else (spec_l5Both.l0 k x2 (wrap64 (x10 + 1)) m5 (m4.set (x10 : Int).toNat false))) else (none)) else (if 0 ≤ x10 then (if rdOf false m4 x10 = true then (spec_l5Both.l0 k x2 (wrap64 (x10 + 1)) m5 (m4.set (x10 : Int).toNat true)) else (spec_l5Both.l0 k x2 (wrap64 (x10 + 1)) m5 (m4.set (x10 : Int).toNat (rdOf false m5 x10)))) else (none))) else ((spec_l5Made.f k m4).bind fun t202 => (some (t202, true)))
def spec_l5Both.f (k : Nat) (l0_0 : List Int) (l1_0 : List Int) (a2 : Bool) : Option (List Int × Bool) := (spec_l5Family.f k l0_0).bind fun t186 => (if t186 = true then ((spec_l5Family.f k l1_0).bind fun t187 => (if t187 = true then ((spec_l5Members.f k l0_0).bind fun t188 => ((spec_l5Members.f k l1_0).bind fun t189 => (spec_l5Both.l0 k a2 0 t189 t188))) else (some ([], false)))) else (some ([], false)))
set_option maxHeartbeats 8000000 in
set_option maxRecDepth 100000 in
theorem spec_l5Both.calls (k : Nat) (A0_0 : Option Addr) (c0_0 : Nat) (l0_0 : List Int) (A1_0 : Option Addr) (c1_0 : Nat) (l1_0 : List Int) (a2 : Bool) (r1 : List Int) (r2 : Bool) (w : World) (hr0_0 : Kd.C (Kd.int .i64) w A0_0 l0_0.length l0_0) (hc0_0 : l0_0.length ≤ c0_0) (hr1_0 : Kd.C (Kd.int .i64) w A1_0 l1_0.length l1_0) (hc1_0 : l1_0.length ≤ c1_0) (h : spec_l5Both.f k l0_0 l1_0 a2 = some (r1, r2)) :
    Calls Try.prog 55 #[.agg #[.slice A0_0 l0_0.length c0_0], .agg #[.slice A1_0 l1_0.length c1_0], .bool a2] w fun e w' => ∃ v0_ : Value, e = .returned (.tuple #[.agg #[v0_], .bool r2]) ∧ Kd.R (Kd.int .i64) 3 w' w.heap.size (fun _ => True) v0_ r1 ∧ Below w.heap.size w w' := by
  have HR0_0 := Aside0.mk hr0_0
  have HC0_0 := Aside0.mk hc0_0
  clear hr0_0 hc0_0
  have HR1_0 := Aside0.mk hr1_0
  have HC1_0 := Aside0.mk hc1_0
  clear hr1_0 hc1_0
  have hu24 := Try.underlying24
  have hu46 := Try.underlying46
  have HM := Aside0.mk (MS.start w)
  have H : ((spec_l5Family.f k l0_0).bind fun t186 => (if t186 = true then ((spec_l5Family.f k l1_0).bind fun t187 => (if t187 = true then ((spec_l5Members.f k l0_0).bind fun t188 => ((spec_l5Members.f k l1_0).bind fun t189 => (spec_l5Both.l0 k a2 0 t189 t188))) else (some ([], false)))) else (some ([], false)))) = some (r1, r2) := h
  clear h
  replace H := Option.bind_eq_some_iff.mp H
  obtain ⟨t186, A1_0, H⟩ := H
  replace H : (if t186 = true then ((spec_l5Family.f k l1_0).bind fun t187 => (if t187 = true then ((spec_l5Members.f k l0_0).bind fun t188 => ((spec_l5Members.f k l1_0).bind fun t189 => (spec_l5Both.l0 k a2 0 t189 t188))) else (some ([], false)))) else (some ([], false))) = some (r1, r2) := H
  have A1_ := Aside0.mk A1_0
  clear A1_0
  by_cases c2_ : t186 = true
  · subst c2_
    have H1 : ((spec_l5Family.f k l1_0).bind fun t187 => (if t187 = true then ((spec_l5Members.f k l0_0).bind fun t188 => ((spec_l5Members.f k l1_0).bind fun t189 => (spec_l5Both.l0 k a2 0 t189 t188))) else (some ([], false)))) = some (r1, r2) := by rw [if_pos rfl] at H; exact H
    clear H
    have H := H1
    clear H1
    replace H := Option.bind_eq_some_iff.mp H
    obtain ⟨t187, A3_0, H⟩ := H
    replace H : (if t187 = true then ((spec_l5Members.f k l0_0).bind fun t188 => ((spec_l5Members.f k l1_0).bind fun t189 => (spec_l5Both.l0 k a2 0 t189 t188))) else (some ([], false))) = some (r1, r2) := H
    have A3_ := Aside0.mk A3_0
    clear A3_0
    by_cases c4_ : t187 = true
    · subst c4_
      have H1 : ((spec_l5Members.f k l0_0).bind fun t188 => ((spec_l5Members.f k l1_0).bind fun t189 => (spec_l5Both.l0 k a2 0 t189 t188))) = some (r1, r2) := by rw [if_pos rfl] at H; exact H
      clear H
      have H := H1
      clear H1
      replace H := Option.bind_eq_some_iff.mp H
      obtain ⟨t188, A5_0, H⟩ := H
      replace H : ((spec_l5Members.f k l1_0).bind fun t189 => (spec_l5Both.l0 k a2 0 t189 t188)) = some (r1, r2) := H
      have A5_ := Aside0.mk A5_0
      clear A5_0
      replace H := Option.bind_eq_some_iff.mp H
      obtain ⟨t189, A6_0, H⟩ := H
      replace H : (spec_l5Both.l0 k a2 0 t189 t188) = some (r1, r2) := H
      have A6_ := Aside0.mk A6_0
      clear A6_0
      have H' := Aside0.mk H
      clear H
      go_enter Try.func55, Try.ntmps55
      go_wp2_with (first | ((with_reducible refine gate_dst (N := 3) rfl ?_); refine box_event ?hg (N := 3) ?hd (cs := #[.slice A0_0 l0_0.length c0_0]) (t := 24) ?hr ?_; (case hd => rfl); (case hg => rfl); (case hr => first | (go_simp; done) | (go_simp; rfl)); intro gb1 hg w7_ hbox hb; have n_ := Aside0.mk (HM.out.addBox hb hbox hg); clear HM; have HM := n_; clear n_; clear hb hbox hg) | ((with_reducible refine gate_dst (N := 4) rfl ?_); refine box_event ?hg (N := 4) ?hd (cs := #[.slice A1_0 l1_0.length c1_0]) (t := 24) ?hr ?_; (case hd => rfl); (case hg => rfl); (case hr => first | (go_simp; done) | (go_simp; rfl)); intro gb2 hg w8_ hbox hb; have n_ := Aside0.mk (HM.out.addBox hb hbox hg); clear HM; have HM := n_; clear n_; clear hb hbox hg) | ((with_reducible refine gate_dst (N := 6) rfl ?_); refine box_event ?hg (N := 6) ?hd (cs := #[.slice none 0 0]) (t := 24) ?hr ?_; (case hd => rfl); (case hg => rfl); (case hr => first | (go_simp; done) | (go_simp; rfl)); intro gb3 hg w9_ hbox hb; have n_ := Aside0.mk (HM.out.addBox hb hbox hg); clear HM; have HM := n_; clear n_; clear hb hbox hg; have hcz10_0 : w9_.cell? ⟨gb1, 0, none⟩ = some (.slice A0_0 l0_0.length c0_0) := (blk_cell (HM.out.box 2 rfl) 0).trans rfl; have hfz10_0 := blk_frozen (HM.out.box 2 rfl) 0) | ((with_reducible refine gate_callee (f := 50) rfl ?_); (with_reducible refine gate_dst (N := 12) rfl ?_); refine goesL_ (some 12) rfl rfl Try.func50 (by kernel_rfl) rfl #[.agg #[.slice A0_0 l0_0.length c0_0]] rfl (by (try simp only [List.map_toArray, List.map_cons, List.map_nil]); first | done | rfl | (simp only [List.length_drop, List.length_take]; rfl)) ?_; (with_reducible refine (spec_l5Family.calls k _ _ l0_0 true _ ?sd0 ?sd1 A1_.out).mono ?_); (case sd0 => exact (Kd.C_below HR0_0.out HM.out.below)); (case sd1 => exact HC0_0.out); rintro e_ w11_ ⟨rfl, hb⟩; refine ⟨_, rfl, ?_⟩; have n_ := Aside0.mk (HM.out.step hb); clear HM; have HM := n_; clear n_; clear hb; have hcz12_0 : w11_.cell? ⟨gb2, 0, none⟩ = some (.slice A1_0 l1_0.length c1_0) := (blk_cell (HM.out.box 1 rfl) 0).trans rfl; have hfz12_0 := blk_frozen (HM.out.box 1 rfl) 0) | (go_at_call 50; (refine calls_of_args (args' := #[.agg #[.slice A1_0 l1_0.length c1_0]]) (by first | done | rfl) ?_); (with_reducible refine (spec_l5Family.calls k _ _ l1_0 true _ ?sd0 ?sd1 A3_.out).mono ?_); (case sd0 => exact (Kd.C_below HR1_0.out HM.out.below)); (case sd1 => exact HC1_0.out); rintro e_ w13_ ⟨rfl, hb⟩; have n_ := Aside0.mk (HM.out.step hb); clear HM; have HM := n_; clear n_; clear hb))
      have n_ := Aside0.mk (HM.out.step (below_drew1 (Below.refl w13_.heap.size w13_)))
      clear HM
      have HM := n_
      clear n_
      refine start_ (n := 8) (S := fun w' => (w'.cell? ⟨gb1, 0, none⟩ = some (.slice A0_0 l0_0.length c0_0)) ∧ (w'.cell? ⟨gb2, 0, none⟩ = some (.slice A1_0 l1_0.length c1_0))) (ds := [6, 7]) #[false, false, false, false, false, false, false, false] (by kernel_rfl) rfl rfl (⟨(blk_cell (HM.out.box 2 rfl) 0).trans rfl, (blk_cell (HM.out.box 1 rfl) 0).trans rfl⟩) (fun hHeld => ?_)
      generalize w13_.drew = w14_ at HM hHeld ⊢
      refine take_ (i := 0) (N := some 20) (v := ?_) (a' := ?_) #[true, false, false, false, false, false, false, false] rfl rfl (by kernel_rfl) (fun _ _ _ h => h) (Or.inl ⟨by rfl, ?_⟩) hHeld ?_ ?_
      rotate_left
      · intro w' s0
        obtain ⟨s0_, s1_⟩ := s0
        go_simp
        first | with_reducible rfl | (simp [Instr.field, asAgg, Go.part, run_underlying hu24, run_underlying hu46]; rfl) | rfl
      rotate_left
      · simp only [Act.put, List.setIfInBounds_toArray, List.set_cons_zero, List.set_cons_succ, i64_w, i32_w]
        rfl
      refine take_ (i := 2) (N := some 22) (v := ?_) (a' := ?_) #[true, false, true, false, false, false, false, false] rfl rfl (by kernel_rfl) (fun _ _ _ h => h) (Or.inl ⟨by rfl, ?_⟩) hHeld ?_ ?_
      rotate_left
      · intro w' s0
        obtain ⟨s0_, s1_⟩ := s0
        go_simp
        first | with_reducible rfl | (simp [Instr.field, asAgg, Go.part, run_underlying hu24, run_underlying hu46]; rfl) | rfl
      rotate_left
      · simp only [Act.put, List.setIfInBounds_toArray, List.set_cons_zero, List.set_cons_succ, i64_w, i32_w]
        rfl
      refine join_ (σ := (Nat) × (Nat)) 2 #[true, true, true, true, true, true, false, false] (fun s_ => [(21, .agg (bcs t188)), (23, .agg (bcs t189)), (8, .pointer (some ⟨s_.1, 0, none⟩)), (9, .pointer (some ⟨s_.2, 0, none⟩))]) (fun s_ w' => Aside0 (t188.length = 64) ∧ Aside0 (t189.length = 64) ∧ MS w w' [.box s_.2 46 (bcs (List.replicate 64 false)), .box s_.1 46 (bcs (List.replicate 64 false)), .box gb3 24 #[.slice none 0 0], .box gb2 24 #[.slice A1_0 l1_0.length c1_0], .box gb1 24 #[.slice A0_0 l0_0.length c0_0]]) ?_ ?_
      rotate_left
      · intro hC
        refine three_ (i := 1) (j := 4) (k := 5) (Ni := some 21) (Nj := some 8) (Nk := some 9) #[true, true, true, false, false, false, false, false] #[true, false, true, false, true, false, false, false] #[true, false, true, false, false, true, false, false] rfl rfl rfl rfl rfl rfl (by kernel_rfl) (by decide) (by decide) (by decide) (fun K hK => ?_) (fun K hK => ?_) (fun K hK => ?_)
        · refine goes_ Try.func37 (by kernel_rfl) rfl #[.agg #[.slice A0_0 l0_0.length c0_0]] (by rfl) rfl rfl (by (try simp only [List.map_toArray, List.map_cons, List.map_nil]); first | done | rfl | (simp only [List.length_drop, List.length_take]; rfl)) ?_
          with_reducible refine (spec_l5Members.calls k _ _ l0_0 t188 _ ?sd0 ?sd1 A5_.out).mono ?_
          (case sd0 => exact (Kd.C_below HR0_0.out HM.out.below))
          (case sd1 => exact HC0_0.out)
          rintro e_ w15_ ⟨rfl, ho0_, hb⟩
          refine ⟨_, rfl, ?_⟩
          have HLt188 := Aside0.mk ho0_
          have n_ := Aside0.mk (HM.out.step hb)
          clear HM
          have HM := n_
          clear n_
          clear hb ho0_
          refine hK.out _ _ (⟨(blk_cell (HM.out.box 2 rfl) 0).trans rfl, (blk_cell (HM.out.box 1 rfl) 0).trans rfl⟩) (fun hHeld => ?_)
          clear hK K
          refine norm_ (a' := ?_) ?_ ?_
          rotate_left
          · show Act.put _ (some 21) _ = _
            simp only [Act.put, List.setIfInBounds_toArray, List.set_cons_zero, List.set_cons_succ, i64_w, i32_w]
            rfl
          refine three_ (i := 3) (j := 4) (k := 5) (Ni := some 23) (Nj := some 8) (Nk := some 9) #[true, true, true, true, false, false, false, false] #[true, true, true, false, true, false, false, false] #[true, true, true, false, false, true, false, false] rfl rfl rfl rfl rfl rfl (by kernel_rfl) (by decide) (by decide) (by decide) (fun K hK => ?_) (fun K hK => ?_) (fun K hK => ?_)
          · refine goes_ Try.func37 (by kernel_rfl) rfl #[.agg #[.slice A1_0 l1_0.length c1_0]] (by rfl) rfl rfl (by (try simp only [List.map_toArray, List.map_cons, List.map_nil]); first | done | rfl | (simp only [List.length_drop, List.length_take]; rfl)) ?_
            with_reducible refine (spec_l5Members.calls k _ _ l1_0 t189 _ ?sd0 ?sd1 A6_.out).mono ?_
            (case sd0 => exact (Kd.C_below HR1_0.out HM.out.below))
            (case sd1 => exact HC1_0.out)
            rintro e_ w16_ ⟨rfl, ho0_, hb⟩
            refine ⟨_, rfl, ?_⟩
            have HLt189 := Aside0.mk ho0_
            have n_ := Aside0.mk (HM.out.step hb)
            clear HM
            have HM := n_
            clear n_
            clear hb ho0_
            refine hK.out _ _ (⟨(blk_cell (HM.out.box 2 rfl) 0).trans rfl, (blk_cell (HM.out.box 1 rfl) 0).trans rfl⟩) (fun hHeld => ?_)
            clear hK K
            refine norm_ (a' := ?_) ?_ ?_
            rotate_left
            · show Act.put _ (some 23) _ = _
              simp only [Act.put, List.setIfInBounds_toArray, List.set_cons_zero, List.set_cons_succ, i64_w, i32_w]
              rfl
            refine two_ (i := 4) (j := 5) (Ni := some 8) (Nj := some 9) #[true, true, true, true, true, false, false, false] #[true, true, true, true, false, true, false, false] rfl rfl rfl rfl (by kernel_rfl) (by decide) (by decide) (fun K hK => ?_) (fun K hK => ?_)
            · refine value_ (w1 := w16_.alloc (.cells (bcs (List.replicate 64 false)) 46)) (v := .pointer (some ⟨w16_.heap.size, 0, none⟩)) (by rfl) rfl ?_ ?_
              · first | (go_simp; done) | (go_simp; rfl)
              obtain ⟨gb4, hgb_⟩ : ∃ g_ : Nat, g_ = w16_.heap.size := ⟨_, rfl⟩
              rw [← hgb_]
              obtain ⟨w17_, hw_⟩ : ∃ w_ : World, w_ = w16_.alloc (.cells (bcs (List.replicate 64 false)) 46) := ⟨_, rfl⟩
              rw [← hw_]
              have hbx_ : w17_.heap[gb4]? = some (.cells (bcs (List.replicate 64 false)) 46 (0, 0)) := by rw [hw_, hgb_]; exact blk_new _ _
              have hb : Below w16_.heap.size w16_ w17_ := by rw [hw_]; exact below_alloc (Below.refl _ _) _
              have n_ := Aside0.mk (HM.out.addBox hb hbx_ hgb_)
              clear HM
              have HM := n_
              clear n_
              clear hb hbx_ hgb_ hw_
              refine hK.out _ _ (⟨(blk_cell (HM.out.box 3 rfl) 0).trans rfl, (blk_cell (HM.out.box 2 rfl) 0).trans rfl⟩) (fun hHeld => ?_)
              clear hK K
              refine norm_ (a' := ?_) ?_ ?_
              rotate_left
              · show Act.put _ (some 8) _ = _
                simp only [Act.put, List.setIfInBounds_toArray, List.set_cons_zero, List.set_cons_succ, i64_w, i32_w]
                rfl
              refine one_ (i := 5) (N := some 9) #[true, true, true, true, true, true, false, false] rfl rfl (by kernel_rfl) (by decide) (fun K hK => ?_)
              refine value_ (w1 := w17_.alloc (.cells (bcs (List.replicate 64 false)) 46)) (v := .pointer (some ⟨w17_.heap.size, 0, none⟩)) (by rfl) rfl ?_ ?_
              · first | (go_simp; done) | (go_simp; rfl)
              obtain ⟨gb5, hgb_⟩ : ∃ g_ : Nat, g_ = w17_.heap.size := ⟨_, rfl⟩
              rw [← hgb_]
              obtain ⟨w18_, hw_⟩ : ∃ w_ : World, w_ = w17_.alloc (.cells (bcs (List.replicate 64 false)) 46) := ⟨_, rfl⟩
              rw [← hw_]
              have hbx_ : w18_.heap[gb5]? = some (.cells (bcs (List.replicate 64 false)) 46 (0, 0)) := by rw [hw_, hgb_]; exact blk_new _ _
              have hb : Below w17_.heap.size w17_ w18_ := by rw [hw_]; exact below_alloc (Below.refl _ _) _
              have n_ := Aside0.mk (HM.out.addBox hb hbx_ hgb_)
              clear HM
              have HM := n_
              clear n_
              clear hb hbx_ hgb_ hw_
              refine hK.out _ _ (⟨(blk_cell (HM.out.box 4 rfl) 0).trans rfl, (blk_cell (HM.out.box 3 rfl) 0).trans rfl⟩) (fun hHeld => ?_)
              clear hK K
              refine norm_ (a' := ?_) ?_ ?_
              rotate_left
              · show Act.put _ (some 9) _ = _
                simp only [Act.put, List.setIfInBounds_toArray, List.set_cons_zero, List.set_cons_succ, i64_w, i32_w]
                rfl
              have h_ := hC (gb4, gb5) w18_ ⟨HLt188, HLt189, (((((HM.out.front 4 rfl).front 4 rfl).front 4 rfl).front 4 rfl).front 4 rfl)⟩
              simp only [putAll, Act.put, List.setIfInBounds_toArray, List.set_cons_zero, List.set_cons_succ] at h_
              exact h_
            · refine value_ (w1 := w16_.alloc (.cells (bcs (List.replicate 64 false)) 46)) (v := .pointer (some ⟨w16_.heap.size, 0, none⟩)) (by rfl) rfl ?_ ?_
              · first | (go_simp; done) | (go_simp; rfl)
              obtain ⟨gb5, hgb_⟩ : ∃ g_ : Nat, g_ = w16_.heap.size := ⟨_, rfl⟩
              rw [← hgb_]
              obtain ⟨w19_, hw_⟩ : ∃ w_ : World, w_ = w16_.alloc (.cells (bcs (List.replicate 64 false)) 46) := ⟨_, rfl⟩
              rw [← hw_]
              have hbx_ : w19_.heap[gb5]? = some (.cells (bcs (List.replicate 64 false)) 46 (0, 0)) := by rw [hw_, hgb_]; exact blk_new _ _
              have hb : Below w16_.heap.size w16_ w19_ := by rw [hw_]; exact below_alloc (Below.refl _ _) _
              have n_ := Aside0.mk (HM.out.addBox hb hbx_ hgb_)
              clear HM
              have HM := n_
              clear n_
              clear hb hbx_ hgb_ hw_
              refine hK.out _ _ (⟨(blk_cell (HM.out.box 3 rfl) 0).trans rfl, (blk_cell (HM.out.box 2 rfl) 0).trans rfl⟩) (fun hHeld => ?_)
              clear hK K
              refine norm_ (a' := ?_) ?_ ?_
              rotate_left
              · show Act.put _ (some 9) _ = _
                simp only [Act.put, List.setIfInBounds_toArray, List.set_cons_zero, List.set_cons_succ, i64_w, i32_w]
                rfl
              refine one_ (i := 4) (N := some 8) #[true, true, true, true, true, true, false, false] rfl rfl (by kernel_rfl) (by decide) (fun K hK => ?_)
              refine value_ (w1 := w19_.alloc (.cells (bcs (List.replicate 64 false)) 46)) (v := .pointer (some ⟨w19_.heap.size, 0, none⟩)) (by rfl) rfl ?_ ?_
              · first | (go_simp; done) | (go_simp; rfl)
              obtain ⟨gb4, hgb_⟩ : ∃ g_ : Nat, g_ = w19_.heap.size := ⟨_, rfl⟩
              rw [← hgb_]
              obtain ⟨w20_, hw_⟩ : ∃ w_ : World, w_ = w19_.alloc (.cells (bcs (List.replicate 64 false)) 46) := ⟨_, rfl⟩
              rw [← hw_]
              have hbx_ : w20_.heap[gb4]? = some (.cells (bcs (List.replicate 64 false)) 46 (0, 0)) := by rw [hw_, hgb_]; exact blk_new _ _
              have hb : Below w19_.heap.size w19_ w20_ := by rw [hw_]; exact below_alloc (Below.refl _ _) _
              have n_ := Aside0.mk (HM.out.addBox hb hbx_ hgb_)
              clear HM
              have HM := n_
              clear n_
              clear hb hbx_ hgb_ hw_
              refine hK.out _ _ (⟨(blk_cell (HM.out.box 4 rfl) 0).trans rfl, (blk_cell (HM.out.box 3 rfl) 0).trans rfl⟩) (fun hHeld => ?_)
              clear hK K
              refine norm_ (a' := ?_) ?_ ?_
              rotate_left
              · show Act.put _ (some 8) _ = _
                simp only [Act.put, List.setIfInBounds_toArray, List.set_cons_zero, List.set_cons_succ, i64_w, i32_w]
                rfl
              have h_ := hC (gb4, gb5) w20_ ⟨HLt188, HLt189, (((((HM.out.front 4 rfl).front 4 rfl).front 4 rfl).front 3 rfl).front 4 rfl)⟩
              simp only [putAll, Act.put, List.setIfInBounds_toArray, List.set_cons_zero, List.set_cons_succ] at h_
              exact h_
          · refine value_ (w1 := w15_.alloc (.cells (bcs (List.replicate 64 false)) 46)) (v := .pointer (some ⟨w15_.heap.size, 0, none⟩)) (by rfl) rfl ?_ ?_
            · first | (go_simp; done) | (go_simp; rfl)
            obtain ⟨gb4, hgb_⟩ : ∃ g_ : Nat, g_ = w15_.heap.size := ⟨_, rfl⟩
            rw [← hgb_]
            obtain ⟨w21_, hw_⟩ : ∃ w_ : World, w_ = w15_.alloc (.cells (bcs (List.replicate 64 false)) 46) := ⟨_, rfl⟩
            rw [← hw_]
            have hbx_ : w21_.heap[gb4]? = some (.cells (bcs (List.replicate 64 false)) 46 (0, 0)) := by rw [hw_, hgb_]; exact blk_new _ _
            have hb : Below w15_.heap.size w15_ w21_ := by rw [hw_]; exact below_alloc (Below.refl _ _) _
            have n_ := Aside0.mk (HM.out.addBox hb hbx_ hgb_)
            clear HM
            have HM := n_
            clear n_
            clear hb hbx_ hgb_ hw_
            refine hK.out _ _ (⟨(blk_cell (HM.out.box 3 rfl) 0).trans rfl, (blk_cell (HM.out.box 2 rfl) 0).trans rfl⟩) (fun hHeld => ?_)
            clear hK K
            refine norm_ (a' := ?_) ?_ ?_
            rotate_left
            · show Act.put _ (some 8) _ = _
              simp only [Act.put, List.setIfInBounds_toArray, List.set_cons_zero, List.set_cons_succ, i64_w, i32_w]
              rfl
            refine two_ (i := 3) (j := 5) (Ni := some 23) (Nj := some 9) #[true, true, true, true, true, false, false, false] #[true, true, true, false, true, true, false, false] rfl rfl rfl rfl (by kernel_rfl) (by decide) (by decide) (fun K hK => ?_) (fun K hK => ?_)
            · refine goes_ Try.func37 (by kernel_rfl) rfl #[.agg #[.slice A1_0 l1_0.length c1_0]] (by rfl) rfl rfl (by (try simp only [List.map_toArray, List.map_cons, List.map_nil]); first | done | rfl | (simp only [List.length_drop, List.length_take]; rfl)) ?_
              with_reducible refine (spec_l5Members.calls k _ _ l1_0 t189 _ ?sd0 ?sd1 A6_.out).mono ?_
              (case sd0 => exact (Kd.C_below HR1_0.out HM.out.below))
              (case sd1 => exact HC1_0.out)
              rintro e_ w22_ ⟨rfl, ho0_, hb⟩
              refine ⟨_, rfl, ?_⟩
              have HLt189 := Aside0.mk ho0_
              have n_ := Aside0.mk (HM.out.step hb)
              clear HM
              have HM := n_
              clear n_
              clear hb ho0_
              refine hK.out _ _ (⟨(blk_cell (HM.out.box 3 rfl) 0).trans rfl, (blk_cell (HM.out.box 2 rfl) 0).trans rfl⟩) (fun hHeld => ?_)
              clear hK K
              refine norm_ (a' := ?_) ?_ ?_
              rotate_left
              · show Act.put _ (some 23) _ = _
                simp only [Act.put, List.setIfInBounds_toArray, List.set_cons_zero, List.set_cons_succ, i64_w, i32_w]
                rfl
              refine one_ (i := 5) (N := some 9) #[true, true, true, true, true, true, false, false] rfl rfl (by kernel_rfl) (by decide) (fun K hK => ?_)
              refine value_ (w1 := w22_.alloc (.cells (bcs (List.replicate 64 false)) 46)) (v := .pointer (some ⟨w22_.heap.size, 0, none⟩)) (by rfl) rfl ?_ ?_
              · first | (go_simp; done) | (go_simp; rfl)
              obtain ⟨gb5, hgb_⟩ : ∃ g_ : Nat, g_ = w22_.heap.size := ⟨_, rfl⟩
              rw [← hgb_]
              obtain ⟨w23_, hw_⟩ : ∃ w_ : World, w_ = w22_.alloc (.cells (bcs (List.replicate 64 false)) 46) := ⟨_, rfl⟩
              rw [← hw_]
              have hbx_ : w23_.heap[gb5]? = some (.cells (bcs (List.replicate 64 false)) 46 (0, 0)) := by rw [hw_, hgb_]; exact blk_new _ _
              have hb : Below w22_.heap.size w22_ w23_ := by rw [hw_]; exact below_alloc (Below.refl _ _) _
              have n_ := Aside0.mk (HM.out.addBox hb hbx_ hgb_)
              clear HM
              have HM := n_
              clear n_
              clear hb hbx_ hgb_ hw_
              refine hK.out _ _ (⟨(blk_cell (HM.out.box 4 rfl) 0).trans rfl, (blk_cell (HM.out.box 3 rfl) 0).trans rfl⟩) (fun hHeld => ?_)
              clear hK K
              refine norm_ (a' := ?_) ?_ ?_
              rotate_left
              · show Act.put _ (some 9) _ = _
                simp only [Act.put, List.setIfInBounds_toArray, List.set_cons_zero, List.set_cons_succ, i64_w, i32_w]
                rfl
              have h_ := hC (gb4, gb5) w23_ ⟨HLt188, HLt189, (((((HM.out.front 4 rfl).front 4 rfl).front 4 rfl).front 4 rfl).front 4 rfl)⟩
              simp only [putAll, Act.put, List.setIfInBounds_toArray, List.set_cons_zero, List.set_cons_succ] at h_
              exact h_
            · refine value_ (w1 := w21_.alloc (.cells (bcs (List.replicate 64 false)) 46)) (v := .pointer (some ⟨w21_.heap.size, 0, none⟩)) (by rfl) rfl ?_ ?_
              · first | (go_simp; done) | (go_simp; rfl)
              obtain ⟨gb5, hgb_⟩ : ∃ g_ : Nat, g_ = w21_.heap.size := ⟨_, rfl⟩
              rw [← hgb_]
              obtain ⟨w24_, hw_⟩ : ∃ w_ : World, w_ = w21_.alloc (.cells (bcs (List.replicate 64 false)) 46) := ⟨_, rfl⟩
              rw [← hw_]
              have hbx_ : w24_.heap[gb5]? = some (.cells (bcs (List.replicate 64 false)) 46 (0, 0)) := by rw [hw_, hgb_]; exact blk_new _ _
              have hb : Below w21_.heap.size w21_ w24_ := by rw [hw_]; exact below_alloc (Below.refl _ _) _
              have n_ := Aside0.mk (HM.out.addBox hb hbx_ hgb_)
              clear HM
              have HM := n_
              clear n_
              clear hb hbx_ hgb_ hw_
              refine hK.out _ _ (⟨(blk_cell (HM.out.box 4 rfl) 0).trans rfl, (blk_cell (HM.out.box 3 rfl) 0).trans rfl⟩) (fun hHeld => ?_)
              clear hK K
              refine norm_ (a' := ?_) ?_ ?_
              rotate_left
              · show Act.put _ (some 9) _ = _
                simp only [Act.put, List.setIfInBounds_toArray, List.set_cons_zero, List.set_cons_succ, i64_w, i32_w]
                rfl
              refine one_ (i := 3) (N := some 23) #[true, true, true, true, true, true, false, false] rfl rfl (by kernel_rfl) (by decide) (fun K hK => ?_)
              refine goes_ Try.func37 (by kernel_rfl) rfl #[.agg #[.slice A1_0 l1_0.length c1_0]] (by rfl) rfl rfl (by (try simp only [List.map_toArray, List.map_cons, List.map_nil]); first | done | rfl | (simp only [List.length_drop, List.length_take]; rfl)) ?_
              with_reducible refine (spec_l5Members.calls k _ _ l1_0 t189 _ ?sd0 ?sd1 A6_.out).mono ?_
              (case sd0 => exact (Kd.C_below HR1_0.out HM.out.below))
              (case sd1 => exact HC1_0.out)
              rintro e_ w25_ ⟨rfl, ho0_, hb⟩
              refine ⟨_, rfl, ?_⟩
              have HLt189 := Aside0.mk ho0_
              have n_ := Aside0.mk (HM.out.step hb)
              clear HM
              have HM := n_
              clear n_
              clear hb ho0_
              refine hK.out _ _ (⟨(blk_cell (HM.out.box 4 rfl) 0).trans rfl, (blk_cell (HM.out.box 3 rfl) 0).trans rfl⟩) (fun hHeld => ?_)
              clear hK K
              refine norm_ (a' := ?_) ?_ ?_
              rotate_left
              · show Act.put _ (some 23) _ = _
                simp only [Act.put, List.setIfInBounds_toArray, List.set_cons_zero, List.set_cons_succ, i64_w, i32_w]
                rfl
              have h_ := hC (gb4, gb5) w25_ ⟨HLt188, HLt189, (((((HM.out.front 4 rfl).front 4 rfl).front 4 rfl).front 4 rfl).front 4 rfl)⟩
              simp only [putAll, Act.put, List.setIfInBounds_toArray, List.set_cons_zero, List.set_cons_succ] at h_
              exact h_
          · refine value_ (w1 := w15_.alloc (.cells (bcs (List.replicate 64 false)) 46)) (v := .pointer (some ⟨w15_.heap.size, 0, none⟩)) (by rfl) rfl ?_ ?_
            · first | (go_simp; done) | (go_simp; rfl)
            obtain ⟨gb5, hgb_⟩ : ∃ g_ : Nat, g_ = w15_.heap.size := ⟨_, rfl⟩
            rw [← hgb_]
            obtain ⟨w26_, hw_⟩ : ∃ w_ : World, w_ = w15_.alloc (.cells (bcs (List.replicate 64 false)) 46) := ⟨_, rfl⟩
            rw [← hw_]
            have hbx_ : w26_.heap[gb5]? = some (.cells (bcs (List.replicate 64 false)) 46 (0, 0)) := by rw [hw_, hgb_]; exact blk_new _ _
            have hb : Below w15_.heap.size w15_ w26_ := by rw [hw_]; exact below_alloc (Below.refl _ _) _
            have n_ := Aside0.mk (HM.out.addBox hb hbx_ hgb_)
            clear HM
            have HM := n_
            clear n_
            clear hb hbx_ hgb_ hw_
            refine hK.out _ _ (⟨(blk_cell (HM.out.box 3 rfl) 0).trans rfl, (blk_cell (HM.out.box 2 rfl) 0).trans rfl⟩) (fun hHeld => ?_)
            clear hK K
            refine norm_ (a' := ?_) ?_ ?_
            rotate_left
            · show Act.put _ (some 9) _ = _
              simp only [Act.put, List.setIfInBounds_toArray, List.set_cons_zero, List.set_cons_succ, i64_w, i32_w]
              rfl
            refine two_ (i := 3) (j := 4) (Ni := some 23) (Nj := some 8) #[true, true, true, true, false, true, false, false] #[true, true, true, false, true, true, false, false] rfl rfl rfl rfl (by kernel_rfl) (by decide) (by decide) (fun K hK => ?_) (fun K hK => ?_)
            · refine goes_ Try.func37 (by kernel_rfl) rfl #[.agg #[.slice A1_0 l1_0.length c1_0]] (by rfl) rfl rfl (by (try simp only [List.map_toArray, List.map_cons, List.map_nil]); first | done | rfl | (simp only [List.length_drop, List.length_take]; rfl)) ?_
              with_reducible refine (spec_l5Members.calls k _ _ l1_0 t189 _ ?sd0 ?sd1 A6_.out).mono ?_
              (case sd0 => exact (Kd.C_below HR1_0.out HM.out.below))
              (case sd1 => exact HC1_0.out)
              rintro e_ w27_ ⟨rfl, ho0_, hb⟩
              refine ⟨_, rfl, ?_⟩
              have HLt189 := Aside0.mk ho0_
              have n_ := Aside0.mk (HM.out.step hb)
              clear HM
              have HM := n_
              clear n_
              clear hb ho0_
              refine hK.out _ _ (⟨(blk_cell (HM.out.box 3 rfl) 0).trans rfl, (blk_cell (HM.out.box 2 rfl) 0).trans rfl⟩) (fun hHeld => ?_)
              clear hK K
              refine norm_ (a' := ?_) ?_ ?_
              rotate_left
              · show Act.put _ (some 23) _ = _
                simp only [Act.put, List.setIfInBounds_toArray, List.set_cons_zero, List.set_cons_succ, i64_w, i32_w]
                rfl
              refine one_ (i := 4) (N := some 8) #[true, true, true, true, true, true, false, false] rfl rfl (by kernel_rfl) (by decide) (fun K hK => ?_)
              refine value_ (w1 := w27_.alloc (.cells (bcs (List.replicate 64 false)) 46)) (v := .pointer (some ⟨w27_.heap.size, 0, none⟩)) (by rfl) rfl ?_ ?_
              · first | (go_simp; done) | (go_simp; rfl)
              obtain ⟨gb4, hgb_⟩ : ∃ g_ : Nat, g_ = w27_.heap.size := ⟨_, rfl⟩
              rw [← hgb_]
              obtain ⟨w28_, hw_⟩ : ∃ w_ : World, w_ = w27_.alloc (.cells (bcs (List.replicate 64 false)) 46) := ⟨_, rfl⟩
              rw [← hw_]
              have hbx_ : w28_.heap[gb4]? = some (.cells (bcs (List.replicate 64 false)) 46 (0, 0)) := by rw [hw_, hgb_]; exact blk_new _ _
              have hb : Below w27_.heap.size w27_ w28_ := by rw [hw_]; exact below_alloc (Below.refl _ _) _
              have n_ := Aside0.mk (HM.out.addBox hb hbx_ hgb_)
              clear HM
              have HM := n_
              clear n_
              clear hb hbx_ hgb_ hw_
              refine hK.out _ _ (⟨(blk_cell (HM.out.box 4 rfl) 0).trans rfl, (blk_cell (HM.out.box 3 rfl) 0).trans rfl⟩) (fun hHeld => ?_)
              clear hK K
              refine norm_ (a' := ?_) ?_ ?_
              rotate_left
              · show Act.put _ (some 8) _ = _
                simp only [Act.put, List.setIfInBounds_toArray, List.set_cons_zero, List.set_cons_succ, i64_w, i32_w]
                rfl
              have h_ := hC (gb4, gb5) w28_ ⟨HLt188, HLt189, (((((HM.out.front 4 rfl).front 4 rfl).front 4 rfl).front 3 rfl).front 4 rfl)⟩
              simp only [putAll, Act.put, List.setIfInBounds_toArray, List.set_cons_zero, List.set_cons_succ] at h_
              exact h_
            · refine value_ (w1 := w26_.alloc (.cells (bcs (List.replicate 64 false)) 46)) (v := .pointer (some ⟨w26_.heap.size, 0, none⟩)) (by rfl) rfl ?_ ?_
              · first | (go_simp; done) | (go_simp; rfl)
              obtain ⟨gb4, hgb_⟩ : ∃ g_ : Nat, g_ = w26_.heap.size := ⟨_, rfl⟩
              rw [← hgb_]
              obtain ⟨w29_, hw_⟩ : ∃ w_ : World, w_ = w26_.alloc (.cells (bcs (List.replicate 64 false)) 46) := ⟨_, rfl⟩
              rw [← hw_]
              have hbx_ : w29_.heap[gb4]? = some (.cells (bcs (List.replicate 64 false)) 46 (0, 0)) := by rw [hw_, hgb_]; exact blk_new _ _
              have hb : Below w26_.heap.size w26_ w29_ := by rw [hw_]; exact below_alloc (Below.refl _ _) _
              have n_ := Aside0.mk (HM.out.addBox hb hbx_ hgb_)
              clear HM
              have HM := n_
              clear n_
              clear hb hbx_ hgb_ hw_
              refine hK.out _ _ (⟨(blk_cell (HM.out.box 4 rfl) 0).trans rfl, (blk_cell (HM.out.box 3 rfl) 0).trans rfl⟩) (fun hHeld => ?_)
              clear hK K
              refine norm_ (a' := ?_) ?_ ?_
              rotate_left
              · show Act.put _ (some 8) _ = _
                simp only [Act.put, List.setIfInBounds_toArray, List.set_cons_zero, List.set_cons_succ, i64_w, i32_w]
                rfl
              refine one_ (i := 3) (N := some 23) #[true, true, true, true, true, true, false, false] rfl rfl (by kernel_rfl) (by decide) (fun K hK => ?_)
              refine goes_ Try.func37 (by kernel_rfl) rfl #[.agg #[.slice A1_0 l1_0.length c1_0]] (by rfl) rfl rfl (by (try simp only [List.map_toArray, List.map_cons, List.map_nil]); first | done | rfl | (simp only [List.length_drop, List.length_take]; rfl)) ?_
              with_reducible refine (spec_l5Members.calls k _ _ l1_0 t189 _ ?sd0 ?sd1 A6_.out).mono ?_
              (case sd0 => exact (Kd.C_below HR1_0.out HM.out.below))
              (case sd1 => exact HC1_0.out)
              rintro e_ w30_ ⟨rfl, ho0_, hb⟩
              refine ⟨_, rfl, ?_⟩
              have HLt189 := Aside0.mk ho0_
              have n_ := Aside0.mk (HM.out.step hb)
              clear HM
              have HM := n_
              clear n_
              clear hb ho0_
              refine hK.out _ _ (⟨(blk_cell (HM.out.box 4 rfl) 0).trans rfl, (blk_cell (HM.out.box 3 rfl) 0).trans rfl⟩) (fun hHeld => ?_)
              clear hK K
              refine norm_ (a' := ?_) ?_ ?_
              rotate_left
              · show Act.put _ (some 23) _ = _
                simp only [Act.put, List.setIfInBounds_toArray, List.set_cons_zero, List.set_cons_succ, i64_w, i32_w]
                rfl
              have h_ := hC (gb4, gb5) w30_ ⟨HLt188, HLt189, (((((HM.out.front 4 rfl).front 4 rfl).front 4 rfl).front 3 rfl).front 4 rfl)⟩
              simp only [putAll, Act.put, List.setIfInBounds_toArray, List.set_cons_zero, List.set_cons_succ] at h_
              exact h_
        · refine value_ (w1 := w14_.alloc (.cells (bcs (List.replicate 64 false)) 46)) (v := .pointer (some ⟨w14_.heap.size, 0, none⟩)) (by rfl) rfl ?_ ?_
          · first | (go_simp; done) | (go_simp; rfl)
          obtain ⟨gb4, hgb_⟩ : ∃ g_ : Nat, g_ = w14_.heap.size := ⟨_, rfl⟩
          rw [← hgb_]
          obtain ⟨w31_, hw_⟩ : ∃ w_ : World, w_ = w14_.alloc (.cells (bcs (List.replicate 64 false)) 46) := ⟨_, rfl⟩
          rw [← hw_]
          have hbx_ : w31_.heap[gb4]? = some (.cells (bcs (List.replicate 64 false)) 46 (0, 0)) := by rw [hw_, hgb_]; exact blk_new _ _
          have hb : Below w14_.heap.size w14_ w31_ := by rw [hw_]; exact below_alloc (Below.refl _ _) _
          have n_ := Aside0.mk (HM.out.addBox hb hbx_ hgb_)
          clear HM
          have HM := n_
          clear n_
          clear hb hbx_ hgb_ hw_
          refine hK.out _ _ (⟨(blk_cell (HM.out.box 3 rfl) 0).trans rfl, (blk_cell (HM.out.box 2 rfl) 0).trans rfl⟩) (fun hHeld => ?_)
          clear hK K
          refine norm_ (a' := ?_) ?_ ?_
          rotate_left
          · show Act.put _ (some 8) _ = _
            simp only [Act.put, List.setIfInBounds_toArray, List.set_cons_zero, List.set_cons_succ, i64_w, i32_w]
            rfl
          refine two_ (i := 1) (j := 5) (Ni := some 21) (Nj := some 9) #[true, true, true, false, true, false, false, false] #[true, false, true, false, true, true, false, false] rfl rfl rfl rfl (by kernel_rfl) (by decide) (by decide) (fun K hK => ?_) (fun K hK => ?_)
          · refine goes_ Try.func37 (by kernel_rfl) rfl #[.agg #[.slice A0_0 l0_0.length c0_0]] (by rfl) rfl rfl (by (try simp only [List.map_toArray, List.map_cons, List.map_nil]); first | done | rfl | (simp only [List.length_drop, List.length_take]; rfl)) ?_
            with_reducible refine (spec_l5Members.calls k _ _ l0_0 t188 _ ?sd0 ?sd1 A5_.out).mono ?_
            (case sd0 => exact (Kd.C_below HR0_0.out HM.out.below))
            (case sd1 => exact HC0_0.out)
            rintro e_ w32_ ⟨rfl, ho0_, hb⟩
            refine ⟨_, rfl, ?_⟩
            have HLt188 := Aside0.mk ho0_
            have n_ := Aside0.mk (HM.out.step hb)
            clear HM
            have HM := n_
            clear n_
            clear hb ho0_
            refine hK.out _ _ (⟨(blk_cell (HM.out.box 3 rfl) 0).trans rfl, (blk_cell (HM.out.box 2 rfl) 0).trans rfl⟩) (fun hHeld => ?_)
            clear hK K
            refine norm_ (a' := ?_) ?_ ?_
            rotate_left
            · show Act.put _ (some 21) _ = _
              simp only [Act.put, List.setIfInBounds_toArray, List.set_cons_zero, List.set_cons_succ, i64_w, i32_w]
              rfl
            refine two_ (i := 3) (j := 5) (Ni := some 23) (Nj := some 9) #[true, true, true, true, true, false, false, false] #[true, true, true, false, true, true, false, false] rfl rfl rfl rfl (by kernel_rfl) (by decide) (by decide) (fun K hK => ?_) (fun K hK => ?_)
            · refine goes_ Try.func37 (by kernel_rfl) rfl #[.agg #[.slice A1_0 l1_0.length c1_0]] (by rfl) rfl rfl (by (try simp only [List.map_toArray, List.map_cons, List.map_nil]); first | done | rfl | (simp only [List.length_drop, List.length_take]; rfl)) ?_
              with_reducible refine (spec_l5Members.calls k _ _ l1_0 t189 _ ?sd0 ?sd1 A6_.out).mono ?_
              (case sd0 => exact (Kd.C_below HR1_0.out HM.out.below))
              (case sd1 => exact HC1_0.out)
              rintro e_ w33_ ⟨rfl, ho0_, hb⟩
              refine ⟨_, rfl, ?_⟩
              have HLt189 := Aside0.mk ho0_
              have n_ := Aside0.mk (HM.out.step hb)
              clear HM
              have HM := n_
              clear n_
              clear hb ho0_
              refine hK.out _ _ (⟨(blk_cell (HM.out.box 3 rfl) 0).trans rfl, (blk_cell (HM.out.box 2 rfl) 0).trans rfl⟩) (fun hHeld => ?_)
              clear hK K
              refine norm_ (a' := ?_) ?_ ?_
              rotate_left
              · show Act.put _ (some 23) _ = _
                simp only [Act.put, List.setIfInBounds_toArray, List.set_cons_zero, List.set_cons_succ, i64_w, i32_w]
                rfl
              refine one_ (i := 5) (N := some 9) #[true, true, true, true, true, true, false, false] rfl rfl (by kernel_rfl) (by decide) (fun K hK => ?_)
              refine value_ (w1 := w33_.alloc (.cells (bcs (List.replicate 64 false)) 46)) (v := .pointer (some ⟨w33_.heap.size, 0, none⟩)) (by rfl) rfl ?_ ?_
              · first | (go_simp; done) | (go_simp; rfl)
              obtain ⟨gb5, hgb_⟩ : ∃ g_ : Nat, g_ = w33_.heap.size := ⟨_, rfl⟩
              rw [← hgb_]
              obtain ⟨w34_, hw_⟩ : ∃ w_ : World, w_ = w33_.alloc (.cells (bcs (List.replicate 64 false)) 46) := ⟨_, rfl⟩
              rw [← hw_]
              have hbx_ : w34_.heap[gb5]? = some (.cells (bcs (List.replicate 64 false)) 46 (0, 0)) := by rw [hw_, hgb_]; exact blk_new _ _
              have hb : Below w33_.heap.size w33_ w34_ := by rw [hw_]; exact below_alloc (Below.refl _ _) _
              have n_ := Aside0.mk (HM.out.addBox hb hbx_ hgb_)
              clear HM
              have HM := n_
              clear n_
              clear hb hbx_ hgb_ hw_
              refine hK.out _ _ (⟨(blk_cell (HM.out.box 4 rfl) 0).trans rfl, (blk_cell (HM.out.box 3 rfl) 0).trans rfl⟩) (fun hHeld => ?_)
              clear hK K
              refine norm_ (a' := ?_) ?_ ?_
              rotate_left
              · show Act.put _ (some 9) _ = _
                simp only [Act.put, List.setIfInBounds_toArray, List.set_cons_zero, List.set_cons_succ, i64_w, i32_w]
                rfl
              have h_ := hC (gb4, gb5) w34_ ⟨HLt188, HLt189, (((((HM.out.front 4 rfl).front 4 rfl).front 4 rfl).front 4 rfl).front 4 rfl)⟩
              simp only [putAll, Act.put, List.setIfInBounds_toArray, List.set_cons_zero, List.set_cons_succ] at h_
              exact h_
            · refine value_ (w1 := w32_.alloc (.cells (bcs (List.replicate 64 false)) 46)) (v := .pointer (some ⟨w32_.heap.size, 0, none⟩)) (by rfl) rfl ?_ ?_
              · first | (go_simp; done) | (go_simp; rfl)
              obtain ⟨gb5, hgb_⟩ : ∃ g_ : Nat, g_ = w32_.heap.size := ⟨_, rfl⟩
              rw [← hgb_]
              obtain ⟨w35_, hw_⟩ : ∃ w_ : World, w_ = w32_.alloc (.cells (bcs (List.replicate 64 false)) 46) := ⟨_, rfl⟩
              rw [← hw_]
              have hbx_ : w35_.heap[gb5]? = some (.cells (bcs (List.replicate 64 false)) 46 (0, 0)) := by rw [hw_, hgb_]; exact blk_new _ _
              have hb : Below w32_.heap.size w32_ w35_ := by rw [hw_]; exact below_alloc (Below.refl _ _) _
              have n_ := Aside0.mk (HM.out.addBox hb hbx_ hgb_)
              clear HM
              have HM := n_
              clear n_
              clear hb hbx_ hgb_ hw_
              refine hK.out _ _ (⟨(blk_cell (HM.out.box 4 rfl) 0).trans rfl, (blk_cell (HM.out.box 3 rfl) 0).trans rfl⟩) (fun hHeld => ?_)
              clear hK K
              refine norm_ (a' := ?_) ?_ ?_
              rotate_left
              · show Act.put _ (some 9) _ = _
                simp only [Act.put, List.setIfInBounds_toArray, List.set_cons_zero, List.set_cons_succ, i64_w, i32_w]
                rfl
              refine one_ (i := 3) (N := some 23) #[true, true, true, true, true, true, false, false] rfl rfl (by kernel_rfl) (by decide) (fun K hK => ?_)
              refine goes_ Try.func37 (by kernel_rfl) rfl #[.agg #[.slice A1_0 l1_0.length c1_0]] (by rfl) rfl rfl (by (try simp only [List.map_toArray, List.map_cons, List.map_nil]); first | done | rfl | (simp only [List.length_drop, List.length_take]; rfl)) ?_
              with_reducible refine (spec_l5Members.calls k _ _ l1_0 t189 _ ?sd0 ?sd1 A6_.out).mono ?_
              (case sd0 => exact (Kd.C_below HR1_0.out HM.out.below))
              (case sd1 => exact HC1_0.out)
              rintro e_ w36_ ⟨rfl, ho0_, hb⟩
              refine ⟨_, rfl, ?_⟩
              have HLt189 := Aside0.mk ho0_
              have n_ := Aside0.mk (HM.out.step hb)
              clear HM
              have HM := n_
              clear n_
              clear hb ho0_
              refine hK.out _ _ (⟨(blk_cell (HM.out.box 4 rfl) 0).trans rfl, (blk_cell (HM.out.box 3 rfl) 0).trans rfl⟩) (fun hHeld => ?_)
              clear hK K
              refine norm_ (a' := ?_) ?_ ?_
              rotate_left
              · show Act.put _ (some 23) _ = _
                simp only [Act.put, List.setIfInBounds_toArray, List.set_cons_zero, List.set_cons_succ, i64_w, i32_w]
                rfl
              have h_ := hC (gb4, gb5) w36_ ⟨HLt188, HLt189, (((((HM.out.front 4 rfl).front 4 rfl).front 4 rfl).front 4 rfl).front 4 rfl)⟩
              simp only [putAll, Act.put, List.setIfInBounds_toArray, List.set_cons_zero, List.set_cons_succ] at h_
              exact h_
          · refine value_ (w1 := w31_.alloc (.cells (bcs (List.replicate 64 false)) 46)) (v := .pointer (some ⟨w31_.heap.size, 0, none⟩)) (by rfl) rfl ?_ ?_
            · first | (go_simp; done) | (go_simp; rfl)
            obtain ⟨gb5, hgb_⟩ : ∃ g_ : Nat, g_ = w31_.heap.size := ⟨_, rfl⟩
            rw [← hgb_]
            obtain ⟨w37_, hw_⟩ : ∃ w_ : World, w_ = w31_.alloc (.cells (bcs (List.replicate 64 false)) 46) := ⟨_, rfl⟩
            rw [← hw_]
            have hbx_ : w37_.heap[gb5]? = some (.cells (bcs (List.replicate 64 false)) 46 (0, 0)) := by rw [hw_, hgb_]; exact blk_new _ _
            have hb : Below w31_.heap.size w31_ w37_ := by rw [hw_]; exact below_alloc (Below.refl _ _) _
            have n_ := Aside0.mk (HM.out.addBox hb hbx_ hgb_)
            clear HM
            have HM := n_
            clear n_
            clear hb hbx_ hgb_ hw_
            refine hK.out _ _ (⟨(blk_cell (HM.out.box 4 rfl) 0).trans rfl, (blk_cell (HM.out.box 3 rfl) 0).trans rfl⟩) (fun hHeld => ?_)
            clear hK K
            refine norm_ (a' := ?_) ?_ ?_
            rotate_left
            · show Act.put _ (some 9) _ = _
              simp only [Act.put, List.setIfInBounds_toArray, List.set_cons_zero, List.set_cons_succ, i64_w, i32_w]
              rfl
            refine one_ (i := 1) (N := some 21) #[true, true, true, false, true, true, false, false] rfl rfl (by kernel_rfl) (by decide) (fun K hK => ?_)
            refine goes_ Try.func37 (by kernel_rfl) rfl #[.agg #[.slice A0_0 l0_0.length c0_0]] (by rfl) rfl rfl (by (try simp only [List.map_toArray, List.map_cons, List.map_nil]); first | done | rfl | (simp only [List.length_drop, List.length_take]; rfl)) ?_
            with_reducible refine (spec_l5Members.calls k _ _ l0_0 t188 _ ?sd0 ?sd1 A5_.out).mono ?_
            (case sd0 => exact (Kd.C_below HR0_0.out HM.out.below))
            (case sd1 => exact HC0_0.out)
            rintro e_ w38_ ⟨rfl, ho0_, hb⟩
            refine ⟨_, rfl, ?_⟩
            have HLt188 := Aside0.mk ho0_
            have n_ := Aside0.mk (HM.out.step hb)
            clear HM
            have HM := n_
            clear n_
            clear hb ho0_
            refine hK.out _ _ (⟨(blk_cell (HM.out.box 4 rfl) 0).trans rfl, (blk_cell (HM.out.box 3 rfl) 0).trans rfl⟩) (fun hHeld => ?_)
            clear hK K
            refine norm_ (a' := ?_) ?_ ?_
            rotate_left
            · show Act.put _ (some 21) _ = _
              simp only [Act.put, List.setIfInBounds_toArray, List.set_cons_zero, List.set_cons_succ, i64_w, i32_w]
              rfl
            refine one_ (i := 3) (N := some 23) #[true, true, true, true, true, true, false, false] rfl rfl (by kernel_rfl) (by decide) (fun K hK => ?_)
            refine goes_ Try.func37 (by kernel_rfl) rfl #[.agg #[.slice A1_0 l1_0.length c1_0]] (by rfl) rfl rfl (by (try simp only [List.map_toArray, List.map_cons, List.map_nil]); first | done | rfl | (simp only [List.length_drop, List.length_take]; rfl)) ?_
            with_reducible refine (spec_l5Members.calls k _ _ l1_0 t189 _ ?sd0 ?sd1 A6_.out).mono ?_
            (case sd0 => exact (Kd.C_below HR1_0.out HM.out.below))
            (case sd1 => exact HC1_0.out)
            rintro e_ w39_ ⟨rfl, ho0_, hb⟩
            refine ⟨_, rfl, ?_⟩
            have HLt189 := Aside0.mk ho0_
            have n_ := Aside0.mk (HM.out.step hb)
            clear HM
            have HM := n_
            clear n_
            clear hb ho0_
            refine hK.out _ _ (⟨(blk_cell (HM.out.box 4 rfl) 0).trans rfl, (blk_cell (HM.out.box 3 rfl) 0).trans rfl⟩) (fun hHeld => ?_)
            clear hK K
            refine norm_ (a' := ?_) ?_ ?_
            rotate_left
            · show Act.put _ (some 23) _ = _
              simp only [Act.put, List.setIfInBounds_toArray, List.set_cons_zero, List.set_cons_succ, i64_w, i32_w]
              rfl
            have h_ := hC (gb4, gb5) w39_ ⟨HLt188, HLt189, (((((HM.out.front 4 rfl).front 4 rfl).front 4 rfl).front 4 rfl).front 4 rfl)⟩
            simp only [putAll, Act.put, List.setIfInBounds_toArray, List.set_cons_zero, List.set_cons_succ] at h_
            exact h_
        · refine value_ (w1 := w14_.alloc (.cells (bcs (List.replicate 64 false)) 46)) (v := .pointer (some ⟨w14_.heap.size, 0, none⟩)) (by rfl) rfl ?_ ?_
          · first | (go_simp; done) | (go_simp; rfl)
          obtain ⟨gb5, hgb_⟩ : ∃ g_ : Nat, g_ = w14_.heap.size := ⟨_, rfl⟩
          rw [← hgb_]
          obtain ⟨w40_, hw_⟩ : ∃ w_ : World, w_ = w14_.alloc (.cells (bcs (List.replicate 64 false)) 46) := ⟨_, rfl⟩
          rw [← hw_]
          have hbx_ : w40_.heap[gb5]? = some (.cells (bcs (List.replicate 64 false)) 46 (0, 0)) := by rw [hw_, hgb_]; exact blk_new _ _
          have hb : Below w14_.heap.size w14_ w40_ := by rw [hw_]; exact below_alloc (Below.refl _ _) _
          have n_ := Aside0.mk (HM.out.addBox hb hbx_ hgb_)
          clear HM
          have HM := n_
          clear n_
          clear hb hbx_ hgb_ hw_
          refine hK.out _ _ (⟨(blk_cell (HM.out.box 3 rfl) 0).trans rfl, (blk_cell (HM.out.box 2 rfl) 0).trans rfl⟩) (fun hHeld => ?_)
          clear hK K
          refine norm_ (a' := ?_) ?_ ?_
          rotate_left
          · show Act.put _ (some 9) _ = _
            simp only [Act.put, List.setIfInBounds_toArray, List.set_cons_zero, List.set_cons_succ, i64_w, i32_w]
            rfl
          refine two_ (i := 1) (j := 4) (Ni := some 21) (Nj := some 8) #[true, true, true, false, false, true, false, false] #[true, false, true, false, true, true, false, false] rfl rfl rfl rfl (by kernel_rfl) (by decide) (by decide) (fun K hK => ?_) (fun K hK => ?_)
          · refine goes_ Try.func37 (by kernel_rfl) rfl #[.agg #[.slice A0_0 l0_0.length c0_0]] (by rfl) rfl rfl (by (try simp only [List.map_toArray, List.map_cons, List.map_nil]); first | done | rfl | (simp only [List.length_drop, List.length_take]; rfl)) ?_
            with_reducible refine (spec_l5Members.calls k _ _ l0_0 t188 _ ?sd0 ?sd1 A5_.out).mono ?_
            (case sd0 => exact (Kd.C_below HR0_0.out HM.out.below))
            (case sd1 => exact HC0_0.out)
            rintro e_ w41_ ⟨rfl, ho0_, hb⟩
            refine ⟨_, rfl, ?_⟩
            have HLt188 := Aside0.mk ho0_
            have n_ := Aside0.mk (HM.out.step hb)
            clear HM
            have HM := n_
            clear n_
            clear hb ho0_
            refine hK.out _ _ (⟨(blk_cell (HM.out.box 3 rfl) 0).trans rfl, (blk_cell (HM.out.box 2 rfl) 0).trans rfl⟩) (fun hHeld => ?_)
            clear hK K
            refine norm_ (a' := ?_) ?_ ?_
            rotate_left
            · show Act.put _ (some 21) _ = _
              simp only [Act.put, List.setIfInBounds_toArray, List.set_cons_zero, List.set_cons_succ, i64_w, i32_w]
              rfl
            refine two_ (i := 3) (j := 4) (Ni := some 23) (Nj := some 8) #[true, true, true, true, false, true, false, false] #[true, true, true, false, true, true, false, false] rfl rfl rfl rfl (by kernel_rfl) (by decide) (by decide) (fun K hK => ?_) (fun K hK => ?_)
            · refine goes_ Try.func37 (by kernel_rfl) rfl #[.agg #[.slice A1_0 l1_0.length c1_0]] (by rfl) rfl rfl (by (try simp only [List.map_toArray, List.map_cons, List.map_nil]); first | done | rfl | (simp only [List.length_drop, List.length_take]; rfl)) ?_
              with_reducible refine (spec_l5Members.calls k _ _ l1_0 t189 _ ?sd0 ?sd1 A6_.out).mono ?_
              (case sd0 => exact (Kd.C_below HR1_0.out HM.out.below))
              (case sd1 => exact HC1_0.out)
              rintro e_ w42_ ⟨rfl, ho0_, hb⟩
              refine ⟨_, rfl, ?_⟩
              have HLt189 := Aside0.mk ho0_
              have n_ := Aside0.mk (HM.out.step hb)
              clear HM
              have HM := n_
              clear n_
              clear hb ho0_
              refine hK.out _ _ (⟨(blk_cell (HM.out.box 3 rfl) 0).trans rfl, (blk_cell (HM.out.box 2 rfl) 0).trans rfl⟩) (fun hHeld => ?_)
              clear hK K
              refine norm_ (a' := ?_) ?_ ?_
              rotate_left
              · show Act.put _ (some 23) _ = _
                simp only [Act.put, List.setIfInBounds_toArray, List.set_cons_zero, List.set_cons_succ, i64_w, i32_w]
                rfl
              refine one_ (i := 4) (N := some 8) #[true, true, true, true, true, true, false, false] rfl rfl (by kernel_rfl) (by decide) (fun K hK => ?_)
              refine value_ (w1 := w42_.alloc (.cells (bcs (List.replicate 64 false)) 46)) (v := .pointer (some ⟨w42_.heap.size, 0, none⟩)) (by rfl) rfl ?_ ?_
              · first | (go_simp; done) | (go_simp; rfl)
              obtain ⟨gb4, hgb_⟩ : ∃ g_ : Nat, g_ = w42_.heap.size := ⟨_, rfl⟩
              rw [← hgb_]
              obtain ⟨w43_, hw_⟩ : ∃ w_ : World, w_ = w42_.alloc (.cells (bcs (List.replicate 64 false)) 46) := ⟨_, rfl⟩
              rw [← hw_]
              have hbx_ : w43_.heap[gb4]? = some (.cells (bcs (List.replicate 64 false)) 46 (0, 0)) := by rw [hw_, hgb_]; exact blk_new _ _
              have hb : Below w42_.heap.size w42_ w43_ := by rw [hw_]; exact below_alloc (Below.refl _ _) _
              have n_ := Aside0.mk (HM.out.addBox hb hbx_ hgb_)
              clear HM
              have HM := n_
              clear n_
              clear hb hbx_ hgb_ hw_
              refine hK.out _ _ (⟨(blk_cell (HM.out.box 4 rfl) 0).trans rfl, (blk_cell (HM.out.box 3 rfl) 0).trans rfl⟩) (fun hHeld => ?_)
              clear hK K
              refine norm_ (a' := ?_) ?_ ?_
              rotate_left
              · show Act.put _ (some 8) _ = _
                simp only [Act.put, List.setIfInBounds_toArray, List.set_cons_zero, List.set_cons_succ, i64_w, i32_w]
                rfl
              have h_ := hC (gb4, gb5) w43_ ⟨HLt188, HLt189, (((((HM.out.front 4 rfl).front 4 rfl).front 4 rfl).front 3 rfl).front 4 rfl)⟩
              simp only [putAll, Act.put, List.setIfInBounds_toArray, List.set_cons_zero, List.set_cons_succ] at h_
              exact h_
            · refine value_ (w1 := w41_.alloc (.cells (bcs (List.replicate 64 false)) 46)) (v := .pointer (some ⟨w41_.heap.size, 0, none⟩)) (by rfl) rfl ?_ ?_
              · first | (go_simp; done) | (go_simp; rfl)
              obtain ⟨gb4, hgb_⟩ : ∃ g_ : Nat, g_ = w41_.heap.size := ⟨_, rfl⟩
              rw [← hgb_]
              obtain ⟨w44_, hw_⟩ : ∃ w_ : World, w_ = w41_.alloc (.cells (bcs (List.replicate 64 false)) 46) := ⟨_, rfl⟩
              rw [← hw_]
              have hbx_ : w44_.heap[gb4]? = some (.cells (bcs (List.replicate 64 false)) 46 (0, 0)) := by rw [hw_, hgb_]; exact blk_new _ _
              have hb : Below w41_.heap.size w41_ w44_ := by rw [hw_]; exact below_alloc (Below.refl _ _) _
              have n_ := Aside0.mk (HM.out.addBox hb hbx_ hgb_)
              clear HM
              have HM := n_
              clear n_
              clear hb hbx_ hgb_ hw_
              refine hK.out _ _ (⟨(blk_cell (HM.out.box 4 rfl) 0).trans rfl, (blk_cell (HM.out.box 3 rfl) 0).trans rfl⟩) (fun hHeld => ?_)
              clear hK K
              refine norm_ (a' := ?_) ?_ ?_
              rotate_left
              · show Act.put _ (some 8) _ = _
                simp only [Act.put, List.setIfInBounds_toArray, List.set_cons_zero, List.set_cons_succ, i64_w, i32_w]
                rfl
              refine one_ (i := 3) (N := some 23) #[true, true, true, true, true, true, false, false] rfl rfl (by kernel_rfl) (by decide) (fun K hK => ?_)
              refine goes_ Try.func37 (by kernel_rfl) rfl #[.agg #[.slice A1_0 l1_0.length c1_0]] (by rfl) rfl rfl (by (try simp only [List.map_toArray, List.map_cons, List.map_nil]); first | done | rfl | (simp only [List.length_drop, List.length_take]; rfl)) ?_
              with_reducible refine (spec_l5Members.calls k _ _ l1_0 t189 _ ?sd0 ?sd1 A6_.out).mono ?_
              (case sd0 => exact (Kd.C_below HR1_0.out HM.out.below))
              (case sd1 => exact HC1_0.out)
              rintro e_ w45_ ⟨rfl, ho0_, hb⟩
              refine ⟨_, rfl, ?_⟩
              have HLt189 := Aside0.mk ho0_
              have n_ := Aside0.mk (HM.out.step hb)
              clear HM
              have HM := n_
              clear n_
              clear hb ho0_
              refine hK.out _ _ (⟨(blk_cell (HM.out.box 4 rfl) 0).trans rfl, (blk_cell (HM.out.box 3 rfl) 0).trans rfl⟩) (fun hHeld => ?_)
              clear hK K
              refine norm_ (a' := ?_) ?_ ?_
              rotate_left
              · show Act.put _ (some 23) _ = _
                simp only [Act.put, List.setIfInBounds_toArray, List.set_cons_zero, List.set_cons_succ, i64_w, i32_w]
                rfl
              have h_ := hC (gb4, gb5) w45_ ⟨HLt188, HLt189, (((((HM.out.front 4 rfl).front 4 rfl).front 4 rfl).front 3 rfl).front 4 rfl)⟩
              simp only [putAll, Act.put, List.setIfInBounds_toArray, List.set_cons_zero, List.set_cons_succ] at h_
              exact h_
          · refine value_ (w1 := w40_.alloc (.cells (bcs (List.replicate 64 false)) 46)) (v := .pointer (some ⟨w40_.heap.size, 0, none⟩)) (by rfl) rfl ?_ ?_
            · first | (go_simp; done) | (go_simp; rfl)
            obtain ⟨gb4, hgb_⟩ : ∃ g_ : Nat, g_ = w40_.heap.size := ⟨_, rfl⟩
            rw [← hgb_]
            obtain ⟨w46_, hw_⟩ : ∃ w_ : World, w_ = w40_.alloc (.cells (bcs (List.replicate 64 false)) 46) := ⟨_, rfl⟩
            rw [← hw_]
            have hbx_ : w46_.heap[gb4]? = some (.cells (bcs (List.replicate 64 false)) 46 (0, 0)) := by rw [hw_, hgb_]; exact blk_new _ _
            have hb : Below w40_.heap.size w40_ w46_ := by rw [hw_]; exact below_alloc (Below.refl _ _) _
            have n_ := Aside0.mk (HM.out.addBox hb hbx_ hgb_)
            clear HM
            have HM := n_
            clear n_
            clear hb hbx_ hgb_ hw_
            refine hK.out _ _ (⟨(blk_cell (HM.out.box 4 rfl) 0).trans rfl, (blk_cell (HM.out.box 3 rfl) 0).trans rfl⟩) (fun hHeld => ?_)
            clear hK K
            refine norm_ (a' := ?_) ?_ ?_
            rotate_left
            · show Act.put _ (some 8) _ = _
              simp only [Act.put, List.setIfInBounds_toArray, List.set_cons_zero, List.set_cons_succ, i64_w, i32_w]
              rfl
            refine one_ (i := 1) (N := some 21) #[true, true, true, false, true, true, false, false] rfl rfl (by kernel_rfl) (by decide) (fun K hK => ?_)
            refine goes_ Try.func37 (by kernel_rfl) rfl #[.agg #[.slice A0_0 l0_0.length c0_0]] (by rfl) rfl rfl (by (try simp only [List.map_toArray, List.map_cons, List.map_nil]); first | done | rfl | (simp only [List.length_drop, List.length_take]; rfl)) ?_
            with_reducible refine (spec_l5Members.calls k _ _ l0_0 t188 _ ?sd0 ?sd1 A5_.out).mono ?_
            (case sd0 => exact (Kd.C_below HR0_0.out HM.out.below))
            (case sd1 => exact HC0_0.out)
            rintro e_ w47_ ⟨rfl, ho0_, hb⟩
            refine ⟨_, rfl, ?_⟩
            have HLt188 := Aside0.mk ho0_
            have n_ := Aside0.mk (HM.out.step hb)
            clear HM
            have HM := n_
            clear n_
            clear hb ho0_
            refine hK.out _ _ (⟨(blk_cell (HM.out.box 4 rfl) 0).trans rfl, (blk_cell (HM.out.box 3 rfl) 0).trans rfl⟩) (fun hHeld => ?_)
            clear hK K
            refine norm_ (a' := ?_) ?_ ?_
            rotate_left
            · show Act.put _ (some 21) _ = _
              simp only [Act.put, List.setIfInBounds_toArray, List.set_cons_zero, List.set_cons_succ, i64_w, i32_w]
              rfl
            refine one_ (i := 3) (N := some 23) #[true, true, true, true, true, true, false, false] rfl rfl (by kernel_rfl) (by decide) (fun K hK => ?_)
            refine goes_ Try.func37 (by kernel_rfl) rfl #[.agg #[.slice A1_0 l1_0.length c1_0]] (by rfl) rfl rfl (by (try simp only [List.map_toArray, List.map_cons, List.map_nil]); first | done | rfl | (simp only [List.length_drop, List.length_take]; rfl)) ?_
            with_reducible refine (spec_l5Members.calls k _ _ l1_0 t189 _ ?sd0 ?sd1 A6_.out).mono ?_
            (case sd0 => exact (Kd.C_below HR1_0.out HM.out.below))
            (case sd1 => exact HC1_0.out)
            rintro e_ w48_ ⟨rfl, ho0_, hb⟩
            refine ⟨_, rfl, ?_⟩
            have HLt189 := Aside0.mk ho0_
            have n_ := Aside0.mk (HM.out.step hb)
            clear HM
            have HM := n_
            clear n_
            clear hb ho0_
            refine hK.out _ _ (⟨(blk_cell (HM.out.box 4 rfl) 0).trans rfl, (blk_cell (HM.out.box 3 rfl) 0).trans rfl⟩) (fun hHeld => ?_)
            clear hK K
            refine norm_ (a' := ?_) ?_ ?_
            rotate_left
            · show Act.put _ (some 23) _ = _
              simp only [Act.put, List.setIfInBounds_toArray, List.set_cons_zero, List.set_cons_succ, i64_w, i32_w]
              rfl
            have h_ := hC (gb4, gb5) w48_ ⟨HLt188, HLt189, (((((HM.out.front 4 rfl).front 4 rfl).front 4 rfl).front 3 rfl).front 4 rfl)⟩
            simp only [putAll, Act.put, List.setIfInBounds_toArray, List.set_cons_zero, List.set_cons_succ] at h_
            exact h_
      · rintro ⟨gb4, gb5⟩ w49_ ⟨HLt188, HLt189, hm_⟩
        have n_ := Aside0.mk (show MS w w49_ [.box gb5 46 (bcs (List.replicate 64 false)), .box gb4 46 (bcs (List.replicate 64 false)), .box gb3 24 #[.slice none 0 0], .box gb2 24 #[.slice A1_0 l1_0.length c1_0], .box gb1 24 #[.slice A0_0 l0_0.length c0_0]] from hm_)
        clear HM
        have HM := n_
        clear n_
        clear hm_
        have hHeld : (w49_.cell? ⟨gb1, 0, none⟩ = some (.slice A0_0 l0_0.length c0_0)) ∧ (w49_.cell? ⟨gb2, 0, none⟩ = some (.slice A1_0 l1_0.length c1_0)) := ⟨(blk_cell (HM.out.box 4 rfl) 0).trans rfl, (blk_cell (HM.out.box 3 rfl) 0).trans rfl⟩
        refine norm_ (a' := ?_) ?_ ?_
        rotate_left
        · simp only [putAll, Act.put, List.setIfInBounds_toArray, List.set_cons_zero, List.set_cons_succ]
          rfl
        refine last_ (i := 6) (N := none) #[true, true, true, true, true, true, true, false] rfl rfl (by kernel_rfl) (by decide) (fun K hK => ?_)
        rw [if_pos (by rfl)]
        refine wp_store_row 46 (.tmp 8) (.tmp 21) rfl gb4 (bcs t188) rfl rfl 46 (bcs (List.replicate 64 false)) (HM.out.box 1 rfl) (by rw [bcs_size, HLt188.out]; kernel_rfl) ((bcs_size _).trans (((List.length_replicate)).trans ((show _ = 64 from HLt188.out).symm.trans (bcs_size _).symm))) (bcs_one _) ?_
        generalize hw : World.setRow _ _ _ = w50_
        have n_ : Aside0 (MS w w50_ [.box gb5 46 (bcs (List.replicate 64 false)), .box gb4 46 (bcs t188), .box gb3 24 #[.slice none 0 0], .box gb2 24 #[.slice A1_0 l1_0.length c1_0], .box gb1 24 #[.slice A0_0 l0_0.length c0_0]]) := ⟨by rw [← hw]; exact HM.out.setRow 1 rfl _⟩
        clear HM hw
        have HM := n_
        clear n_
        refine (show K _ w50_ from ?_)
        refine hK.out _ _ ?_
        clear hK K
        refine last_ (i := 7) (N := none) #[true, true, true, true, true, true, true, true] rfl rfl (by kernel_rfl) (by decide) (fun K hK => ?_)
        rw [if_pos (by rfl)]
        refine wp_store_row 46 (.tmp 9) (.tmp 23) rfl gb5 (bcs t189) rfl rfl 46 (bcs (List.replicate 64 false)) (HM.out.box 0 rfl) (by rw [bcs_size, HLt189.out]; kernel_rfl) ((bcs_size _).trans (((List.length_replicate)).trans ((show _ = 64 from HLt189.out).symm.trans (bcs_size _).symm))) (bcs_one _) ?_
        generalize hw : World.setRow _ _ _ = w51_
        have n_ : Aside0 (MS w w51_ [.box gb5 46 (bcs t189), .box gb4 46 (bcs t188), .box gb3 24 #[.slice none 0 0], .box gb2 24 #[.slice A1_0 l1_0.length c1_0], .box gb1 24 #[.slice A0_0 l0_0.length c0_0]]) := ⟨by rw [← hw]; exact HM.out.setRow 0 rfl _⟩
        clear HM hw
        have HM := n_
        clear n_
        refine (show K _ w51_ from ?_)
        refine hK.out _ _ ?_
        clear hK K
        refine done_ (by kernel_rfl) ?_
        go_wp2
        go_loopg [10] k (fun kq v10 w' => ∃ (x10_52 : Int) (m4_52 : List Bool), v10 = .int .i64 x10_52 ∧ Aside0 (spec_l5Both.l0 kq a2 x10_52 t189 m4_52 = some (r1, r2)) ∧ Aside0 (kq ≤ k) ∧ Aside0 (m4_52.length = 64) ∧ Aside0 (MS w w' [.box gb5 46 (bcs t189), .box gb4 46 (bcs m4_52), .box gb3 24 #[.slice none 0 0], .box gb2 24 #[.slice A1_0 l1_0.length c1_0], .box gb1 24 #[.slice A0_0 l0_0.length c0_0]]))
        case atStart => exact ⟨(0), (t188), (by first | rfl | (simp; done) | (simp [*]; done)), H', ⟨Nat.le_refl _⟩, ⟨HLt188.out⟩, HM⟩
        case round =>
          clear H'
          clear HM
          obtain ⟨x10_52, m4_52, rfl, HA, HK53_, HLm4_52, HM⟩ := hrel
          cases gk with
          | zero => exact absurd HA.out (by simp [spec_l5Both.l0])
          | succ k54_ =>
            have H := HA.out
            clear HA
            simp only [spec_l5Both.l0] at H
            by_cases c55_ : x10_52 < 64
            · rw [if_pos c55_] at H
              have c55_b0 : decide (x10_52 < 64) = true := decide_eq_true c55_
              clear c55_
              by_cases c56_ : a2 = true
              · subst c56_
                have H1 : (if 0 ≤ x10_52 then (if rdOf false m4_52 x10_52 = true then (spec_l5Both.l0 k54_ true (wrap64 (x10_52 + 1)) t189 (m4_52.set (x10_52 : Int).toNat (rdOf false t189 x10_52))) else (spec_l5Both.l0 k54_ true (wrap64 (x10_52 + 1)) t189 (m4_52.set (x10_52 : Int).toNat false))) else (none)) = some (r1, r2) := by rw [if_pos rfl] at H; exact H
                clear H
                have H := H1
                clear H1
                by_cases c57_ : 0 ≤ x10_52
                · rw [if_pos c57_] at H
                  have c57_b0 : decide (0 ≤ x10_52) = true := decide_eq_true c57_
                  clear c57_
                  by_cases c58_ : rdOf false m4_52 x10_52 = true
                  · rw [if_pos c58_] at H
                    have c58_b0 : rdOf false m4_52 x10_52 = true := c58_
                    clear c58_
                    obtain ⟨y192, hy192⟩ : ∃ y_, y_ = (m4_52.set (x10_52 : Int).toNat (rdOf false t189 x10_52)) := ⟨_, rfl⟩
                    replace H : (spec_l5Both.l0 k54_ true (wrap64 (x10_52 + 1)) t189 y192) = some (r1, r2) := by first | (rw [hy192]; with_reducible exact H) | (have H2_ := (Option.bind_some _ _).symm.trans H; rw [hy192]; with_reducible exact H2_) | (have H2_ := (Option.bind_some _ _).symm.trans H; with_reducible exact H2_) | with_reducible exact H | (rw [hy192]; exact H) | exact H
                    have Ny192 := Aside0.mk hy192
                    clear hy192
                    have H' := Aside0.mk H
                    clear H
                    have p190 : 0 ≤ (x10_52 : Int) := of_decide_eq_true (by first | (with_reducible assumption) | assumption)
                    have q190 : (x10_52 : Int) < 64 := of_decide_eq_true (by first | (with_reducible assumption) | assumption)
                    have hx190 := bcell (HM.out.box 1 rfl) x10_52 p190 (by have := HLm4_52.out; omega)
                    replace p190 := eq_true p190
                    replace q190 := eq_true q190
                    have p191 : 0 ≤ (x10_52 : Int) := of_decide_eq_true (by first | (with_reducible assumption) | assumption)
                    have q191 : (x10_52 : Int) < 64 := of_decide_eq_true (by first | (with_reducible assumption) | assumption)
                    have hx191 := bcell (HM.out.box 0 rfl) x10_52 p191 (by have := HLt189.out; omega)
                    replace p191 := eq_true p191
                    replace q191 := eq_true q191
                    have p193 : 0 ≤ (x10_52 : Int) := of_decide_eq_true (by first | (with_reducible assumption) | assumption)
                    have q193 : (x10_52 : Int) < 64 := of_decide_eq_true (by first | (with_reducible assumption) | assumption)
                    have hx193 := bcell (HM.out.box 1 rfl) x10_52 p193 (by have := HLm4_52.out; omega)
                    have hf193 := blk_frozen (HM.out.box 1 rfl) (x10_52 : Int).toNat
                    replace p193 := eq_true p193
                    replace q193 := eq_true q193
                    go_wp2_with (first | ((with_reducible refine gate_store (t := 4) (p := 38) rfl ?_); refine store_event (t := 4) (p := 38) (v := ?vow59_) (w1 := (wr.setCell ⟨gb4, (x10_52 : Int).toNat, none⟩ (.bool (rdOf false t189 x10_52)))) ?hg ?ho ?hn ?hr ?_; (case ho => rfl); (case hg => rfl); (case hn => rfl); (case hr => first | (go_simp; done) | (go_simp; rfl)); intro w59_ hw; have n_ : Aside0 (MS w w59_ [.box gb5 46 (bcs t189), .box gb4 46 (bcs y192), .box gb3 24 #[.slice none 0 0], .box gb2 24 #[.slice A1_0 l1_0.length c1_0], .box gb1 24 #[.slice A0_0 l0_0.length c0_0]]) := ⟨by rw [hw]; exact HM.out.setBox 1 rfl _ _ (by rw [bcs_set, ← Ny192.out])⟩; clear HM hw; have HM := n_; clear n_))
                    go_roundg k54_
                    case measure => have hHK53__ := HK53_.out; omega
                    case rel => exact ⟨(wrap64 (x10_52 + 1)), (y192), (by first | rfl | (simp; done) | (simp [*]; done)), H', ⟨by have hHK53__ := HK53_.out; omega⟩, ⟨(show y192.length = 64 from by rw [Ny192.out, List.length_set]; exact HLm4_52.out)⟩, HM⟩
                  · rw [if_neg c58_] at H
                    have c58_b0 : rdOf false m4_52 x10_52 = false := by simpa using c58_
                    clear c58_
                    obtain ⟨y194, hy194⟩ : ∃ y_, y_ = (m4_52.set (x10_52 : Int).toNat false) := ⟨_, rfl⟩
                    replace H : (spec_l5Both.l0 k54_ true (wrap64 (x10_52 + 1)) t189 y194) = some (r1, r2) := by first | (rw [hy194]; with_reducible exact H) | (have H2_ := (Option.bind_some _ _).symm.trans H; rw [hy194]; with_reducible exact H2_) | (have H2_ := (Option.bind_some _ _).symm.trans H; with_reducible exact H2_) | with_reducible exact H | (rw [hy194]; exact H) | exact H
                    have Ny194 := Aside0.mk hy194
                    clear hy194
                    have H' := Aside0.mk H
                    clear H
                    have p190 : 0 ≤ (x10_52 : Int) := of_decide_eq_true (by first | (with_reducible assumption) | assumption)
                    have q190 : (x10_52 : Int) < 64 := of_decide_eq_true (by first | (with_reducible assumption) | assumption)
                    have hx190 := bcell (HM.out.box 1 rfl) x10_52 p190 (by have := HLm4_52.out; omega)
                    replace p190 := eq_true p190
                    replace q190 := eq_true q190
                    have p195 : 0 ≤ (x10_52 : Int) := of_decide_eq_true (by first | (with_reducible assumption) | assumption)
                    have q195 : (x10_52 : Int) < 64 := of_decide_eq_true (by first | (with_reducible assumption) | assumption)
                    have hx195 := bcell (HM.out.box 1 rfl) x10_52 p195 (by have := HLm4_52.out; omega)
                    have hf195 := blk_frozen (HM.out.box 1 rfl) (x10_52 : Int).toNat
                    replace p195 := eq_true p195
                    replace q195 := eq_true q195
                    go_wp2_with (first | ((with_reducible refine gate_store (t := 4) (p := 38) rfl ?_); refine store_event (t := 4) (p := 38) (v := ?vow60_) (w1 := (wr.setCell ⟨gb4, (x10_52 : Int).toNat, none⟩ (.bool false))) ?hg ?ho ?hn ?hr ?_; (case ho => rfl); (case hg => rfl); (case hn => rfl); (case hr => first | (go_simp; done) | (go_simp; rfl)); intro w60_ hw; have n_ : Aside0 (MS w w60_ [.box gb5 46 (bcs t189), .box gb4 46 (bcs y194), .box gb3 24 #[.slice none 0 0], .box gb2 24 #[.slice A1_0 l1_0.length c1_0], .box gb1 24 #[.slice A0_0 l0_0.length c0_0]]) := ⟨by rw [hw]; exact HM.out.setBox 1 rfl _ _ (by rw [bcs_set, ← Ny194.out])⟩; clear HM hw; have HM := n_; clear n_))
                    go_roundg k54_
                    case measure => have hHK53__ := HK53_.out; omega
                    case rel => exact ⟨(wrap64 (x10_52 + 1)), (y194), (by first | rfl | (simp; done) | (simp [*]; done)), H', ⟨by have hHK53__ := HK53_.out; omega⟩, ⟨(show y194.length = 64 from by rw [Ny194.out, List.length_set]; exact HLm4_52.out)⟩, HM⟩
                · rw [if_neg c57_] at H
                  have c57_b0 : decide (0 ≤ x10_52) = false := decide_eq_false c57_
                  clear c57_
                  exact absurd H (by simp)
              · replace c56_ := Bool.eq_false_iff.mpr c56_
                subst c56_
                have H1 : (if 0 ≤ x10_52 then (if rdOf false m4_52 x10_52 = true then (spec_l5Both.l0 k54_ false (wrap64 (x10_52 + 1)) t189 (m4_52.set (x10_52 : Int).toNat true)) else (spec_l5Both.l0 k54_ false (wrap64 (x10_52 + 1)) t189 (m4_52.set (x10_52 : Int).toNat (rdOf false t189 x10_52)))) else (none)) = some (r1, r2) := by rw [if_neg (show ¬ (false = true) by decide)] at H; exact H
                clear H
                have H := H1
                clear H1
                by_cases c61_ : 0 ≤ x10_52
                · rw [if_pos c61_] at H
                  have c61_b0 : decide (0 ≤ x10_52) = true := decide_eq_true c61_
                  clear c61_
                  by_cases c62_ : rdOf false m4_52 x10_52 = true
                  · rw [if_pos c62_] at H
                    have c62_b0 : rdOf false m4_52 x10_52 = true := c62_
                    clear c62_
                    obtain ⟨y197, hy197⟩ : ∃ y_, y_ = (m4_52.set (x10_52 : Int).toNat true) := ⟨_, rfl⟩
                    replace H : (spec_l5Both.l0 k54_ false (wrap64 (x10_52 + 1)) t189 y197) = some (r1, r2) := by first | (rw [hy197]; with_reducible exact H) | (have H2_ := (Option.bind_some _ _).symm.trans H; rw [hy197]; with_reducible exact H2_) | (have H2_ := (Option.bind_some _ _).symm.trans H; with_reducible exact H2_) | with_reducible exact H | (rw [hy197]; exact H) | exact H
                    have Ny197 := Aside0.mk hy197
                    clear hy197
                    have H' := Aside0.mk H
                    clear H
                    have p196 : 0 ≤ (x10_52 : Int) := of_decide_eq_true (by first | (with_reducible assumption) | assumption)
                    have q196 : (x10_52 : Int) < 64 := of_decide_eq_true (by first | (with_reducible assumption) | assumption)
                    have hx196 := bcell (HM.out.box 1 rfl) x10_52 p196 (by have := HLm4_52.out; omega)
                    replace p196 := eq_true p196
                    replace q196 := eq_true q196
                    have p198 : 0 ≤ (x10_52 : Int) := of_decide_eq_true (by first | (with_reducible assumption) | assumption)
                    have q198 : (x10_52 : Int) < 64 := of_decide_eq_true (by first | (with_reducible assumption) | assumption)
                    have hx198 := bcell (HM.out.box 1 rfl) x10_52 p198 (by have := HLm4_52.out; omega)
                    have hf198 := blk_frozen (HM.out.box 1 rfl) (x10_52 : Int).toNat
                    replace p198 := eq_true p198
                    replace q198 := eq_true q198
                    go_wp2_with (first | ((with_reducible refine gate_store (t := 4) (p := 48) rfl ?_); refine store_event (t := 4) (p := 48) (v := ?vow63_) (w1 := (wr.setCell ⟨gb4, (x10_52 : Int).toNat, none⟩ (.bool true))) ?hg ?ho ?hn ?hr ?_; (case ho => rfl); (case hg => rfl); (case hn => rfl); (case hr => first | (go_simp; done) | (go_simp; rfl)); intro w63_ hw; have n_ : Aside0 (MS w w63_ [.box gb5 46 (bcs t189), .box gb4 46 (bcs y197), .box gb3 24 #[.slice none 0 0], .box gb2 24 #[.slice A1_0 l1_0.length c1_0], .box gb1 24 #[.slice A0_0 l0_0.length c0_0]]) := ⟨by rw [hw]; exact HM.out.setBox 1 rfl _ _ (by rw [bcs_set, ← Ny197.out])⟩; clear HM hw; have HM := n_; clear n_))
                    go_roundg k54_
                    case measure => have hHK53__ := HK53_.out; omega
                    case rel => exact ⟨(wrap64 (x10_52 + 1)), (y197), (by first | rfl | (simp; done) | (simp [*]; done)), H', ⟨by have hHK53__ := HK53_.out; omega⟩, ⟨(show y197.length = 64 from by rw [Ny197.out, List.length_set]; exact HLm4_52.out)⟩, HM⟩
                  · rw [if_neg c62_] at H
                    have c62_b0 : rdOf false m4_52 x10_52 = false := by simpa using c62_
                    clear c62_
                    obtain ⟨y200, hy200⟩ : ∃ y_, y_ = (m4_52.set (x10_52 : Int).toNat (rdOf false t189 x10_52)) := ⟨_, rfl⟩
                    replace H : (spec_l5Both.l0 k54_ false (wrap64 (x10_52 + 1)) t189 y200) = some (r1, r2) := by first | (rw [hy200]; with_reducible exact H) | (have H2_ := (Option.bind_some _ _).symm.trans H; rw [hy200]; with_reducible exact H2_) | (have H2_ := (Option.bind_some _ _).symm.trans H; with_reducible exact H2_) | with_reducible exact H | (rw [hy200]; exact H) | exact H
                    have Ny200 := Aside0.mk hy200
                    clear hy200
                    have H' := Aside0.mk H
                    clear H
                    have p196 : 0 ≤ (x10_52 : Int) := of_decide_eq_true (by first | (with_reducible assumption) | assumption)
                    have q196 : (x10_52 : Int) < 64 := of_decide_eq_true (by first | (with_reducible assumption) | assumption)
                    have hx196 := bcell (HM.out.box 1 rfl) x10_52 p196 (by have := HLm4_52.out; omega)
                    replace p196 := eq_true p196
                    replace q196 := eq_true q196
                    have p199 : 0 ≤ (x10_52 : Int) := of_decide_eq_true (by first | (with_reducible assumption) | assumption)
                    have q199 : (x10_52 : Int) < 64 := of_decide_eq_true (by first | (with_reducible assumption) | assumption)
                    have hx199 := bcell (HM.out.box 0 rfl) x10_52 p199 (by have := HLt189.out; omega)
                    replace p199 := eq_true p199
                    replace q199 := eq_true q199
                    have p201 : 0 ≤ (x10_52 : Int) := of_decide_eq_true (by first | (with_reducible assumption) | assumption)
                    have q201 : (x10_52 : Int) < 64 := of_decide_eq_true (by first | (with_reducible assumption) | assumption)
                    have hx201 := bcell (HM.out.box 1 rfl) x10_52 p201 (by have := HLm4_52.out; omega)
                    have hf201 := blk_frozen (HM.out.box 1 rfl) (x10_52 : Int).toNat
                    replace p201 := eq_true p201
                    replace q201 := eq_true q201
                    go_wp2_with (first | ((with_reducible refine gate_store (t := 4) (p := 48) rfl ?_); refine store_event (t := 4) (p := 48) (v := ?vow64_) (w1 := (wr.setCell ⟨gb4, (x10_52 : Int).toNat, none⟩ (.bool (rdOf false t189 x10_52)))) ?hg ?ho ?hn ?hr ?_; (case ho => rfl); (case hg => rfl); (case hn => rfl); (case hr => first | (go_simp; done) | (go_simp; rfl)); intro w64_ hw; have n_ : Aside0 (MS w w64_ [.box gb5 46 (bcs t189), .box gb4 46 (bcs y200), .box gb3 24 #[.slice none 0 0], .box gb2 24 #[.slice A1_0 l1_0.length c1_0], .box gb1 24 #[.slice A0_0 l0_0.length c0_0]]) := ⟨by rw [hw]; exact HM.out.setBox 1 rfl _ _ (by rw [bcs_set, ← Ny200.out])⟩; clear HM hw; have HM := n_; clear n_))
                    go_roundg k54_
                    case measure => have hHK53__ := HK53_.out; omega
                    case rel => exact ⟨(wrap64 (x10_52 + 1)), (y200), (by first | rfl | (simp; done) | (simp [*]; done)), H', ⟨by have hHK53__ := HK53_.out; omega⟩, ⟨(show y200.length = 64 from by rw [Ny200.out, List.length_set]; exact HLm4_52.out)⟩, HM⟩
                · rw [if_neg c61_] at H
                  have c61_b0 : decide (0 ≤ x10_52) = false := decide_eq_false c61_
                  clear c61_
                  exact absurd H (by simp)
            · rw [if_neg c55_] at H
              have c55_b0 : decide (x10_52 < 64) = false := decide_eq_false c55_
              clear c55_
              replace H := Option.bind_eq_some_iff.mp H
              obtain ⟨t202, A65_0, H⟩ := H
              replace H : (some (t202, true)) = some (r1, r2) := H
              have A65_ := Aside0.mk A65_0
              clear A65_0
              simp only [Option.some.injEq, Prod.mk.injEq] at H
              obtain ⟨rfl, rfl⟩ := H
              go_wp2_with (first | ((with_reducible refine gate_dst (N := 49) rfl ?_); refine wpList_load_row rfl _ _ rfl gb4 rfl 46 (bcs m4_52) (0, 0) _ (HM.out.box 1 rfl) Try.underlying46 rfl (by rw [bcs_size, HLm4_52.out]; kernel_rfl) ?_) | ((with_reducible refine gate_callee (f := 36) rfl ?_); (with_reducible refine gate_dst (N := 50) rfl ?_); refine goesL_ (some 50) rfl rfl Try.func36 (by kernel_rfl) rfl #[.agg (bcs m4_52)] rfl (by (try simp only [List.map_toArray, List.map_cons, List.map_nil]); first | done | rfl | (simp only [List.length_drop, List.length_take]; rfl)) ?_; (with_reducible refine (spec_l5Made.calls k54_ m4_52 t202 _ ?sd0 A65_.out).mono ?_); (case sd0 => exact HLm4_52.out); rintro e_ w66_ ⟨vv0_, rfl, ho0_, hb⟩; refine ⟨_, rfl, ?_⟩; obtain ⟨Ao6_0, co6_0, ev_⟩ := Kd.R_slice ho0_; subst ev_; have n_ := Aside0.mk (HM.out.addR hb ho0_); clear HM; have HM := n_; clear n_; clear hb ho0_; have hcz68_0 : w66_.cell? ⟨gb3, 0, none⟩ = some (.slice none 0 0) := (blk_cell (HM.out.box 3 rfl) 0).trans rfl; have hfz68_0 := blk_frozen (HM.out.box 3 rfl) 0) | ((with_reducible refine gate_store (t := 24) (p := 6) rfl ?_); refine store_event (t := 24) (p := 6) (v := ?vow67_) (w1 := (w66_.setCell ⟨gb3, 0, none⟩ (.slice Ao6_0 t202.length co6_0))) ?hg ?ho ?hn ?hr ?_; (case ho => rfl); (case hg => rfl); (case hn => rfl); (case hr => first | (go_simp; done) | (go_simp; rfl)); intro w67_ hw; have n_ : Aside0 (MS w w67_ [.row 3 (.slice Ao6_0 t202.length co6_0) (encs (Value.int .i64) t202), .box gb5 46 (bcs t189), .box gb4 46 (bcs m4_52), .box gb3 24 #[.slice Ao6_0 t202.length co6_0], .box gb2 24 #[.slice A1_0 l1_0.length c1_0], .box gb1 24 #[.slice A0_0 l0_0.length c0_0]]) := ⟨by rw [hw]; exact HM.out.setBox 3 rfl _ _ rfl⟩; clear HM hw; have HM := n_; clear n_))
              refine bodyPost_ret (results_ct rfl _ _ gb3 24 #[.slice Ao6_0 t202.length co6_0] (0, 0) _ rfl (HM.out.box 3 rfl) Try.underlying24 rfl (by kernel_rfl)) rfl ?_
              exact ⟨_, by first | rfl | (simp; done) | (simp [*]; done), HM.out.R 0 rfl, HM.out.below⟩
    · replace c4_ := Bool.eq_false_iff.mpr c4_
      subst c4_
      have H1 : (some ([], false)) = some (r1, r2) := by rw [if_neg (show ¬ (false = true) by decide)] at H; exact H
      clear H
      have H := H1
      clear H1
      simp only [Option.some.injEq, Prod.mk.injEq] at H
      obtain ⟨rfl, rfl⟩ := H
      go_enter Try.func55, Try.ntmps55
      go_wp2_with (first | ((with_reducible refine gate_dst (N := 3) rfl ?_); refine box_event ?hg (N := 3) ?hd (cs := #[.slice A0_0 l0_0.length c0_0]) (t := 24) ?hr ?_; (case hd => rfl); (case hg => rfl); (case hr => first | (go_simp; done) | (go_simp; rfl)); intro gb1 hg w69_ hbox hb; have n_ := Aside0.mk (HM.out.addBox hb hbox hg); clear HM; have HM := n_; clear n_; clear hb hbox hg) | ((with_reducible refine gate_dst (N := 4) rfl ?_); refine box_event ?hg (N := 4) ?hd (cs := #[.slice A1_0 l1_0.length c1_0]) (t := 24) ?hr ?_; (case hd => rfl); (case hg => rfl); (case hr => first | (go_simp; done) | (go_simp; rfl)); intro gb2 hg w70_ hbox hb; have n_ := Aside0.mk (HM.out.addBox hb hbox hg); clear HM; have HM := n_; clear n_; clear hb hbox hg) | ((with_reducible refine gate_dst (N := 6) rfl ?_); refine box_event ?hg (N := 6) ?hd (cs := #[.slice none 0 0]) (t := 24) ?hr ?_; (case hd => rfl); (case hg => rfl); (case hr => first | (go_simp; done) | (go_simp; rfl)); intro gb3 hg w71_ hbox hb; have n_ := Aside0.mk (HM.out.addBox hb hbox hg); clear HM; have HM := n_; clear n_; clear hb hbox hg; have hcz72_0 : w71_.cell? ⟨gb1, 0, none⟩ = some (.slice A0_0 l0_0.length c0_0) := (blk_cell (HM.out.box 2 rfl) 0).trans rfl; have hfz72_0 := blk_frozen (HM.out.box 2 rfl) 0) | ((with_reducible refine gate_callee (f := 50) rfl ?_); (with_reducible refine gate_dst (N := 12) rfl ?_); refine goesL_ (some 12) rfl rfl Try.func50 (by kernel_rfl) rfl #[.agg #[.slice A0_0 l0_0.length c0_0]] rfl (by (try simp only [List.map_toArray, List.map_cons, List.map_nil]); first | done | rfl | (simp only [List.length_drop, List.length_take]; rfl)) ?_; (with_reducible refine (spec_l5Family.calls k _ _ l0_0 true _ ?sd0 ?sd1 A1_.out).mono ?_); (case sd0 => exact (Kd.C_below HR0_0.out HM.out.below)); (case sd1 => exact HC0_0.out); rintro e_ w73_ ⟨rfl, hb⟩; refine ⟨_, rfl, ?_⟩; have n_ := Aside0.mk (HM.out.step hb); clear HM; have HM := n_; clear n_; clear hb; have hcz74_0 : w73_.cell? ⟨gb2, 0, none⟩ = some (.slice A1_0 l1_0.length c1_0) := (blk_cell (HM.out.box 1 rfl) 0).trans rfl; have hfz74_0 := blk_frozen (HM.out.box 1 rfl) 0) | (go_at_call 50; (refine calls_of_args (args' := #[.agg #[.slice A1_0 l1_0.length c1_0]]) (by first | done | rfl) ?_); (with_reducible refine (spec_l5Family.calls k _ _ l1_0 false _ ?sd0 ?sd1 A3_.out).mono ?_); (case sd0 => exact (Kd.C_below HR1_0.out HM.out.below)); (case sd1 => exact HC1_0.out); rintro e_ w75_ ⟨rfl, hb⟩; have n_ := Aside0.mk (HM.out.step hb); clear HM; have HM := n_; clear n_; clear hb; have hcz77_0 : w75_.cell? ⟨gb3, 0, none⟩ = some (.slice none 0 0) := (blk_cell (HM.out.box 0 rfl) 0).trans rfl; have hfz77_0 := blk_frozen (HM.out.box 0 rfl) 0) | ((with_reducible refine gate_store (t := 24) (p := 6) rfl ?_); refine store_event (t := 24) (p := 6) (v := ?vow76_) (w1 := (w75_.setCell ⟨gb3, 0, none⟩ (.slice none 0 0))) ?hg ?ho ?hn ?hr ?_; (case ho => rfl); (case hg => rfl); (case hn => rfl); (case hr => first | (go_simp; done) | (go_simp; rfl)); intro w76_ hw; have n_ : Aside0 (MS w w76_ [.box gb3 24 #[.slice none 0 0], .box gb2 24 #[.slice A1_0 l1_0.length c1_0], .box gb1 24 #[.slice A0_0 l0_0.length c0_0]]) := ⟨by rw [hw]; exact HM.out.setBox 0 rfl _ _ rfl⟩; clear HM hw; have HM := n_; clear n_))
      refine bodyPost_ret (results_ct rfl _ _ gb3 24 #[.slice none 0 0] (0, 0) _ rfl (HM.out.box 0 rfl) Try.underlying24 rfl (by kernel_rfl)) rfl ?_
      exact ⟨_, by first | rfl | (simp; done) | (simp [*]; done), Kd.R_nil _ _ _ _ _, HM.out.below⟩
  · replace c2_ := Bool.eq_false_iff.mpr c2_
    subst c2_
    have H1 : (some ([], false)) = some (r1, r2) := by rw [if_neg (show ¬ (false = true) by decide)] at H; exact H
    clear H
    have H := H1
    clear H1
    simp only [Option.some.injEq, Prod.mk.injEq] at H
    obtain ⟨rfl, rfl⟩ := H
    go_enter Try.func55, Try.ntmps55
    go_wp2_with (first | ((with_reducible refine gate_dst (N := 3) rfl ?_); refine box_event ?hg (N := 3) ?hd (cs := #[.slice A0_0 l0_0.length c0_0]) (t := 24) ?hr ?_; (case hd => rfl); (case hg => rfl); (case hr => first | (go_simp; done) | (go_simp; rfl)); intro gb1 hg w78_ hbox hb; have n_ := Aside0.mk (HM.out.addBox hb hbox hg); clear HM; have HM := n_; clear n_; clear hb hbox hg) | ((with_reducible refine gate_dst (N := 4) rfl ?_); refine box_event ?hg (N := 4) ?hd (cs := #[.slice A1_0 l1_0.length c1_0]) (t := 24) ?hr ?_; (case hd => rfl); (case hg => rfl); (case hr => first | (go_simp; done) | (go_simp; rfl)); intro gb2 hg w79_ hbox hb; have n_ := Aside0.mk (HM.out.addBox hb hbox hg); clear HM; have HM := n_; clear n_; clear hb hbox hg) | ((with_reducible refine gate_dst (N := 6) rfl ?_); refine box_event ?hg (N := 6) ?hd (cs := #[.slice none 0 0]) (t := 24) ?hr ?_; (case hd => rfl); (case hg => rfl); (case hr => first | (go_simp; done) | (go_simp; rfl)); intro gb3 hg w80_ hbox hb; have n_ := Aside0.mk (HM.out.addBox hb hbox hg); clear HM; have HM := n_; clear n_; clear hb hbox hg; have hcz81_0 : w80_.cell? ⟨gb1, 0, none⟩ = some (.slice A0_0 l0_0.length c0_0) := (blk_cell (HM.out.box 2 rfl) 0).trans rfl; have hfz81_0 := blk_frozen (HM.out.box 2 rfl) 0) | ((with_reducible refine gate_callee (f := 50) rfl ?_); (with_reducible refine gate_dst (N := 12) rfl ?_); refine goesL_ (some 12) rfl rfl Try.func50 (by kernel_rfl) rfl #[.agg #[.slice A0_0 l0_0.length c0_0]] rfl (by (try simp only [List.map_toArray, List.map_cons, List.map_nil]); first | done | rfl | (simp only [List.length_drop, List.length_take]; rfl)) ?_; (with_reducible refine (spec_l5Family.calls k _ _ l0_0 false _ ?sd0 ?sd1 A1_.out).mono ?_); (case sd0 => exact (Kd.C_below HR0_0.out HM.out.below)); (case sd1 => exact HC0_0.out); rintro e_ w82_ ⟨rfl, hb⟩; refine ⟨_, rfl, ?_⟩; have n_ := Aside0.mk (HM.out.step hb); clear HM; have HM := n_; clear n_; clear hb; have hcz84_0 : w82_.cell? ⟨gb3, 0, none⟩ = some (.slice none 0 0) := (blk_cell (HM.out.box 0 rfl) 0).trans rfl; have hfz84_0 := blk_frozen (HM.out.box 0 rfl) 0) | ((with_reducible refine gate_store (t := 24) (p := 6) rfl ?_); refine store_event (t := 24) (p := 6) (v := ?vow83_) (w1 := (w82_.setCell ⟨gb3, 0, none⟩ (.slice none 0 0))) ?hg ?ho ?hn ?hr ?_; (case ho => rfl); (case hg => rfl); (case hn => rfl); (case hr => first | (go_simp; done) | (go_simp; rfl)); intro w83_ hw; have n_ : Aside0 (MS w w83_ [.box gb3 24 #[.slice none 0 0], .box gb2 24 #[.slice A1_0 l1_0.length c1_0], .box gb1 24 #[.slice A0_0 l0_0.length c0_0]]) := ⟨by rw [hw]; exact HM.out.setBox 0 rfl _ _ rfl⟩; clear HM hw; have HM := n_; clear n_))
    refine bodyPost_ret (results_ct rfl _ _ gb3 24 #[.slice none 0 0] (0, 0) _ rfl (HM.out.box 0 rfl) Try.underlying24 rfl (by kernel_rfl)) rfl ?_
    exact ⟨_, by first | rfl | (simp; done) | (simp [*]; done), Kd.R_nil _ _ _ _ _, HM.out.below⟩

/-! ### spec_AndFamily: function 27 -/
def spec_AndFamily.f (k : Nat) (l0_0 : List Int) (l1_0 : List Int) : Option (List Int × Bool) := (spec_l5Both.f k l0_0 l1_0 true).bind fun bt203 => (some (bt203.1, bt203.2))
set_option maxHeartbeats 8000000 in
set_option maxRecDepth 100000 in
theorem spec_AndFamily.calls (k : Nat) (A0_0 : Option Addr) (c0_0 : Nat) (l0_0 : List Int) (A1_0 : Option Addr) (c1_0 : Nat) (l1_0 : List Int) (r1 : List Int) (r2 : Bool) (w : World) (hr0_0 : Kd.C (Kd.int .i64) w A0_0 l0_0.length l0_0) (hc0_0 : l0_0.length ≤ c0_0) (hr1_0 : Kd.C (Kd.int .i64) w A1_0 l1_0.length l1_0) (hc1_0 : l1_0.length ≤ c1_0) (h : spec_AndFamily.f k l0_0 l1_0 = some (r1, r2)) :
    Calls Try.prog 27 #[.agg #[.slice A0_0 l0_0.length c0_0], .agg #[.slice A1_0 l1_0.length c1_0]] w fun e w' => ∃ v0_ : Value, e = .returned (.tuple #[.agg #[v0_], .bool r2]) ∧ Kd.R (Kd.int .i64) 3 w' w.heap.size (fun _ => True) v0_ r1 ∧ Below w.heap.size w w' := by
  have HR0_0 := Aside0.mk hr0_0
  have HC0_0 := Aside0.mk hc0_0
  clear hr0_0 hc0_0
  have HR1_0 := Aside0.mk hr1_0
  have HC1_0 := Aside0.mk hc1_0
  clear hr1_0 hc1_0
  have hu24 := Try.underlying24
  have HM := Aside0.mk (MS.start w)
  have H : ((spec_l5Both.f k l0_0 l1_0 true).bind fun bt203 => (some (bt203.1, bt203.2))) = some (r1, r2) := h
  clear h
  replace H := Option.bind_eq_some_iff.mp H
  obtain ⟨⟨t203, t204⟩, A1_0, H⟩ := H
  replace H : (some (t203, t204)) = some (r1, r2) := H
  have A1_ := Aside0.mk A1_0
  clear A1_0
  simp only [Option.some.injEq, Prod.mk.injEq] at H
  obtain ⟨rfl, rfl⟩ := H
  go_enter Try.func27, Try.ntmps27
  go_wp2_with (first | ((with_reducible refine gate_dst (N := 2) rfl ?_); refine box_event ?hg (N := 2) ?hd (cs := #[.slice A0_0 l0_0.length c0_0]) (t := 24) ?hr ?_; (case hd => rfl); (case hg => rfl); (case hr => first | (go_simp; done) | (go_simp; rfl)); intro gb1 hg w2_ hbox hb; have n_ := Aside0.mk (HM.out.addBox hb hbox hg); clear HM; have HM := n_; clear n_; clear hb hbox hg) | ((with_reducible refine gate_dst (N := 3) rfl ?_); refine box_event ?hg (N := 3) ?hd (cs := #[.slice A1_0 l1_0.length c1_0]) (t := 24) ?hr ?_; (case hd => rfl); (case hg => rfl); (case hr => first | (go_simp; done) | (go_simp; rfl)); intro gb2 hg w3_ hbox hb; have n_ := Aside0.mk (HM.out.addBox hb hbox hg); clear HM; have HM := n_; clear n_; clear hb hbox hg) | ((with_reducible refine gate_dst (N := 4) rfl ?_); refine box_event ?hg (N := 4) ?hd (cs := #[.slice none 0 0]) (t := 24) ?hr ?_; (case hd => rfl); (case hg => rfl); (case hr => first | (go_simp; done) | (go_simp; rfl)); intro gb3 hg w4_ hbox hb; have n_ := Aside0.mk (HM.out.addBox hb hbox hg); clear HM; have HM := n_; clear n_; clear hb hbox hg; have hcz5_0 : w4_.cell? ⟨gb1, 0, none⟩ = some (.slice A0_0 l0_0.length c0_0) := (blk_cell (HM.out.box 2 rfl) 0).trans rfl; have hfz5_0 := blk_frozen (HM.out.box 2 rfl) 0; have hcz6_0 : w4_.cell? ⟨gb2, 0, none⟩ = some (.slice A1_0 l1_0.length c1_0) := (blk_cell (HM.out.box 1 rfl) 0).trans rfl; have hfz6_0 := blk_frozen (HM.out.box 1 rfl) 0) | ((with_reducible refine gate_callee (f := 55) rfl ?_); (with_reducible refine gate_dst (N := 8) rfl ?_); refine goesL_ (some 8) rfl rfl Try.func55 (by kernel_rfl) rfl #[.agg #[.slice A0_0 l0_0.length c0_0], .agg #[.slice A1_0 l1_0.length c1_0], .bool true] rfl (by (try simp only [List.map_toArray, List.map_cons, List.map_nil]); first | done | rfl | (simp only [List.length_drop, List.length_take]; rfl)) ?_; (with_reducible refine (spec_l5Both.calls k _ _ l0_0 _ _ l1_0 true t203 t204 _ ?sd0 ?sd1 ?sd2 ?sd3 A1_.out).mono ?_); (case sd0 => exact (Kd.C_below HR0_0.out HM.out.below)); (case sd1 => exact HC0_0.out); (case sd2 => exact (Kd.C_below HR1_0.out HM.out.below)); (case sd3 => exact HC1_0.out); rintro e_ w7_ ⟨vv0_, rfl, ho0_, hb⟩; refine ⟨_, rfl, ?_⟩; obtain ⟨Ao4_0, co4_0, ev_⟩ := Kd.R_slice ho0_; subst ev_; have n_ := Aside0.mk (HM.out.addR hb ho0_); clear HM; have HM := n_; clear n_; clear hb ho0_; have hcz9_0 : w7_.cell? ⟨gb3, 0, none⟩ = some (.slice none 0 0) := (blk_cell (HM.out.box 1 rfl) 0).trans rfl; have hfz9_0 := blk_frozen (HM.out.box 1 rfl) 0) | ((with_reducible refine gate_store (t := 24) (p := 4) rfl ?_); refine store_event (t := 24) (p := 4) (v := ?vow8_) (w1 := (w7_.setCell ⟨gb3, 0, none⟩ (.slice Ao4_0 t203.length co4_0))) ?hg ?ho ?hn ?hr ?_; (case ho => rfl); (case hg => rfl); (case hn => rfl); (case hr => first | (go_simp; done) | (go_simp; rfl)); intro w8_ hw; have n_ : Aside0 (MS w w8_ [.row 3 (.slice Ao4_0 t203.length co4_0) (encs (Value.int .i64) t203), .box gb3 24 #[.slice Ao4_0 t203.length co4_0], .box gb2 24 #[.slice A1_0 l1_0.length c1_0], .box gb1 24 #[.slice A0_0 l0_0.length c0_0]]) := ⟨by rw [hw]; exact HM.out.setBox 1 rfl _ _ rfl⟩; clear HM hw; have HM := n_; clear n_))
  refine bodyPost_ret (results_ct rfl _ _ gb3 24 #[.slice Ao4_0 t203.length co4_0] (0, 0) _ rfl (HM.out.box 1 rfl) Try.underlying24 rfl (by kernel_rfl)) rfl ?_
  exact ⟨_, by first | rfl | (simp; done) | (simp [*]; done), HM.out.R 0 rfl, HM.out.below⟩

/-! ### slices_IndexFunc_impl_Family_impl_Family: function 78 -/
def slices_IndexFunc_impl_Family_impl_Family.l0 : Nat → (List (List Int)) → (List Int → Option Bool) → (Int) → (Int) → Option (Int)
  | 0, _, _, _, _ => none
  | k + 1, x0, x1, x7, x8 => if x8 < x7 then (if 0 ≤ x8 then (if x8 < (x0.length : Int) then ((x1 (rdOf [] x0 x8)).bind fun t206 => (if t206 = true then (some x8) else (slices_IndexFunc_impl_Family_impl_Family.l0 k x0 x1 x7 (wrap64 (x8 + 1))))) else (none)) else (none)) else (some (-1))
def slices_IndexFunc_impl_Family_impl_Family.f (k : Nat) (l0 : List (List Int)) (g1 : List Int → Option Bool) : Option (Int) := slices_IndexFunc_impl_Family_impl_Family.l0 k l0 g1 (l0.length : Int) 0
set_option maxHeartbeats 8000000 in
set_option maxRecDepth 100000 in
theorem slices_IndexFunc_impl_Family_impl_Family.calls (k : Nat) (A0 : Option Addr) (c0 : Nat) (l0 : List (List Int)) (F1 : Value) (g1 : List Int → Option Bool) (r : Int) (w : World) (hr0 : Kd.C (Kd.slice 3 (Kd.int .i64)) w A0 l0.length l0) (hc0 : l0.length ≤ c0) (hf1 : FnR Try.prog w F1 (fun v_ => .agg #[v_]) g1) (h : slices_IndexFunc_impl_Family_impl_Family.f k l0 g1 = some r) :
    Calls Try.prog 78 #[.slice A0 l0.length c0, F1] w fun e w' => e = .returned (.int .i64 r) ∧ Below w.heap.size w w' := by
  have HR0 := Aside0.mk hr0
  have HC0 := Aside0.mk hc0
  clear hr0 hc0
  have HF1 := Aside0.mk hf1
  clear hf1
  have hu24 := Try.underlying24
  have hu63 := Try.underlying63
  have HM := Aside0.mk (MS.start w)
  have H : (slices_IndexFunc_impl_Family_impl_Family.l0 k l0 g1 (l0.length : Int) 0) = some r := h
  clear h
  have H' := Aside0.mk H
  clear H
  go_enter Try.func78, Try.ntmps78
  go_wp2
  go_loopg [8] k (fun kq v8 w' => ∃ (x8_1 : Int), v8 = .int .i64 x8_1 ∧ Aside0 (slices_IndexFunc_impl_Family_impl_Family.l0 kq l0 g1 (l0.length : Int) x8_1 = some r) ∧ Aside0 (kq ≤ k) ∧ Aside0 (MS w w' []))
  case atStart => exact ⟨(0), (by first | rfl | (simp; done) | (simp [*]; done)), H', ⟨Nat.le_refl _⟩, HM⟩
  case round =>
    clear H'
    clear HM
    obtain ⟨x8_1, rfl, HA, HK2_, HM⟩ := hrel
    cases gk with
    | zero => exact absurd HA.out (by simp [slices_IndexFunc_impl_Family_impl_Family.l0])
    | succ k3_ =>
      have H := HA.out
      clear HA
      simp only [slices_IndexFunc_impl_Family_impl_Family.l0] at H
      by_cases c4_ : x8_1 < (l0.length : Int)
      · rw [if_pos c4_] at H
        have c4_b0 : decide (x8_1 < (l0.length : Int)) = true := decide_eq_true c4_
        clear c4_
        by_cases c5_ : 0 ≤ x8_1
        · rw [if_pos c5_] at H
          have c5_b0 : decide (0 ≤ x8_1) = true := decide_eq_true c5_
          clear c5_
          by_cases c6_ : x8_1 < (l0.length : Int)
          · rw [if_pos c6_] at H
            have c6_b0 : decide (x8_1 < (l0.length : Int)) = true := decide_eq_true c6_
            clear c6_
            replace H := Option.bind_eq_some_iff.mp H
            obtain ⟨t206, A7_0, H⟩ := H
            replace H : (if t206 = true then (some x8_1) else (slices_IndexFunc_impl_Family_impl_Family.l0 k3_ l0 g1 (l0.length : Int) (wrap64 (x8_1 + 1)))) = some r := H
            have A7_ := Aside0.mk A7_0
            clear A7_0
            by_cases c8_ : t206 = true
            · subst c8_
              have H1 : (some x8_1) = some r := by rw [if_pos rfl] at H; exact H
              clear H
              have H := H1
              clear H1
              obtain rfl := Option.some.inj H
              have p205 : 0 ≤ (x8_1 : Int) := of_decide_eq_true (by first | (with_reducible assumption) | assumption)
              have q205 : (x8_1 : Int) < (l0.length : Int) := of_decide_eq_true (by first | (with_reducible assumption) | assumption)
              obtain ⟨ad205, Ae205, ce205, e205, hx205, hle205, hC205⟩ := row_elem HR0.out x8_1 p205 q205
              cases e205
              replace hx205 := (HM.out.below.cell (World.block_lt_of_cell? w _ hx205)).trans hx205
              have HRe205 := Aside0.mk hC205
              have HCe205 := Aside0.mk hle205
              clear hC205 hle205
              replace p205 := eq_true p205
              replace q205 := eq_true q205
              go_wp2_with (first | ((with_reducible refine gate_dst (N := 16) rfl ?_); refine goesR (some 16) rfl rfl (V := F1) (wr := (fun v_ => .agg #[v_])) (g := g1) (A := Ae205) (c := ce205) (l := rdOf [] l0 x8_1) (r := true) rfl rfl rfl (FnR.below HF1.out HM.out.below) (Kd.C_below HRe205.out HM.out.below) HCe205.out A7_.out ?_; intro w9_ hb; have n_ := Aside0.mk (HM.out.step hb); clear HM; have HM := n_; clear n_; clear hb))
              go_ret
              exact ⟨by first | rfl | (simp; done) | (simp [*]; done), HM.out.below⟩
            · replace c8_ := Bool.eq_false_iff.mpr c8_
              subst c8_
              have H1 : (slices_IndexFunc_impl_Family_impl_Family.l0 k3_ l0 g1 (l0.length : Int) (wrap64 (x8_1 + 1))) = some r := by rw [if_neg (show ¬ (false = true) by decide)] at H; exact H
              clear H
              have H := H1
              clear H1
              have H' := Aside0.mk H
              clear H
              have p205 : 0 ≤ (x8_1 : Int) := of_decide_eq_true (by first | (with_reducible assumption) | assumption)
              have q205 : (x8_1 : Int) < (l0.length : Int) := of_decide_eq_true (by first | (with_reducible assumption) | assumption)
              obtain ⟨ad205, Ae205, ce205, e205, hx205, hle205, hC205⟩ := row_elem HR0.out x8_1 p205 q205
              cases e205
              replace hx205 := (HM.out.below.cell (World.block_lt_of_cell? w _ hx205)).trans hx205
              have HRe205 := Aside0.mk hC205
              have HCe205 := Aside0.mk hle205
              clear hC205 hle205
              replace p205 := eq_true p205
              replace q205 := eq_true q205
              go_wp2_with (first | ((with_reducible refine gate_dst (N := 16) rfl ?_); refine goesR (some 16) rfl rfl (V := F1) (wr := (fun v_ => .agg #[v_])) (g := g1) (A := Ae205) (c := ce205) (l := rdOf [] l0 x8_1) (r := false) rfl rfl rfl (FnR.below HF1.out HM.out.below) (Kd.C_below HRe205.out HM.out.below) HCe205.out A7_.out ?_; intro w10_ hb; have n_ := Aside0.mk (HM.out.step hb); clear HM; have HM := n_; clear n_; clear hb))
              go_roundg k3_
              case measure => have hHK2__ := HK2_.out; omega
              case rel => exact ⟨(wrap64 (x8_1 + 1)), (by first | rfl | (simp; done) | (simp [*]; done)), H', ⟨by have hHK2__ := HK2_.out; omega⟩, HM⟩
          · rw [if_neg c6_] at H
            have c6_b0 : decide (x8_1 < (l0.length : Int)) = false := decide_eq_false c6_
            clear c6_
            exact absurd H (by simp)
        · rw [if_neg c5_] at H
          have c5_b0 : decide (0 ≤ x8_1) = false := decide_eq_false c5_
          clear c5_
          exact absurd H (by simp)
      · rw [if_neg c4_] at H
        have c4_b0 : decide (x8_1 < (l0.length : Int)) = false := decide_eq_false c4_
        clear c4_
        obtain rfl := Option.some.inj H
        go_wp2
        go_ret
        exact ⟨by first | rfl | (simp; done) | (simp [*]; done), HM.out.below⟩

/-! ### slices_ContainsFunc_impl_Family_impl_Family: function 73 -/
def slices_ContainsFunc_impl_Family_impl_Family.f (k : Nat) (l0 : List (List Int)) (g1 : List Int → Option Bool) : Option (Bool) := (slices_IndexFunc_impl_Family_impl_Family.f k l0 g1).bind fun t207 => (some (decide (t207 ≥ 0)))
set_option maxHeartbeats 8000000 in
set_option maxRecDepth 100000 in
theorem slices_ContainsFunc_impl_Family_impl_Family.calls (k : Nat) (A0 : Option Addr) (c0 : Nat) (l0 : List (List Int)) (F1 : Value) (g1 : List Int → Option Bool) (r : Bool) (w : World) (hr0 : Kd.C (Kd.slice 3 (Kd.int .i64)) w A0 l0.length l0) (hc0 : l0.length ≤ c0) (hf1 : FnR Try.prog w F1 (fun v_ => .agg #[v_]) g1) (h : slices_ContainsFunc_impl_Family_impl_Family.f k l0 g1 = some r) :
    Calls Try.prog 73 #[.slice A0 l0.length c0, F1] w fun e w' => e = .returned (.bool r) ∧ Below w.heap.size w w' := by
  have HR0 := Aside0.mk hr0
  have HC0 := Aside0.mk hc0
  clear hr0 hc0
  have HF1 := Aside0.mk hf1
  clear hf1
  have HM := Aside0.mk (MS.start w)
  have H : ((slices_IndexFunc_impl_Family_impl_Family.f k l0 g1).bind fun t207 => (some (decide (t207 ≥ 0)))) = some r := h
  clear h
  replace H := Option.bind_eq_some_iff.mp H
  obtain ⟨t207, A1_0, H⟩ := H
  replace H : (some (decide (t207 ≥ 0))) = some r := H
  have A1_ := Aside0.mk A1_0
  clear A1_0
  obtain rfl := Option.some.inj H
  go_enter Try.func73, Try.ntmps73
  go_wp2_with (first | ((with_reducible refine gate_callee (f := 78) rfl ?_); (with_reducible refine gate_dst (N := 7) rfl ?_); refine goesL_ (some 7) rfl rfl Try.func78 (by kernel_rfl) rfl #[.slice A0 l0.length c0, F1] rfl (by (try simp only [List.map_toArray, List.map_cons, List.map_nil]); first | done | rfl | (simp only [List.length_drop, List.length_take]; rfl)) ?_; (with_reducible refine (slices_IndexFunc_impl_Family_impl_Family.calls k _ _ l0 _ g1 t207 _ ?sd0 ?sd1 ?sd2 A1_.out).mono ?_); (case sd0 => exact (Kd.C_below HR0.out HM.out.below)); (case sd1 => exact HC0.out); (case sd2 => exact (FnR.below HF1.out HM.out.below)); rintro e_ w2_ ⟨rfl, hb⟩; refine ⟨_, rfl, ?_⟩; have n_ := Aside0.mk (HM.out.step hb); clear HM; have HM := n_; clear n_; clear hb))
  go_ret
  exact ⟨by first | rfl | (simp; done) | (simp [*]; done), HM.out.below⟩

/-! ### impl_areFamilies_1: function 74 -/
def impl_areFamilies_1.f (k : Nat) (l0_0 : List Int) : Option (Bool) := (impl_isFamily.f k l0_0).bind fun t208 => (some (!t208))
set_option maxHeartbeats 8000000 in
set_option maxRecDepth 100000 in
theorem impl_areFamilies_1.calls (k : Nat) (A0_0 : Option Addr) (c0_0 : Nat) (l0_0 : List Int) (r : Bool) (w : World) (hr0_0 : Kd.C (Kd.int .i64) w A0_0 l0_0.length l0_0) (hc0_0 : l0_0.length ≤ c0_0) (h : impl_areFamilies_1.f k l0_0 = some r) :
    Calls Try.prog 74 #[.agg #[.slice A0_0 l0_0.length c0_0]] w fun e w' => e = .returned (.bool r) ∧ Below w.heap.size w w' := by
  have HR0_0 := Aside0.mk hr0_0
  have HC0_0 := Aside0.mk hc0_0
  clear hr0_0 hc0_0
  have hu24 := Try.underlying24
  have HM := Aside0.mk (MS.start w)
  have H : ((impl_isFamily.f k l0_0).bind fun t208 => (some (!t208))) = some r := h
  clear h
  replace H := Option.bind_eq_some_iff.mp H
  obtain ⟨t208, A1_0, H⟩ := H
  replace H : (some (!t208)) = some r := H
  have A1_ := Aside0.mk A1_0
  clear A1_0
  obtain rfl := Option.some.inj H
  go_enter Try.func74, Try.ntmps74
  go_wp2_with (first | ((with_reducible refine gate_dst (N := 1) rfl ?_); refine box_event ?hg (N := 1) ?hd (cs := #[.slice A0_0 l0_0.length c0_0]) (t := 24) ?hr ?_; (case hd => rfl); (case hg => rfl); (case hr => first | (go_simp; done) | (go_simp; rfl)); intro gb1 hg w2_ hbox hb; have n_ := Aside0.mk (HM.out.addBox hb hbox hg); clear HM; have HM := n_; clear n_; clear hb hbox hg; have hcz3_0 : w2_.cell? ⟨gb1, 0, none⟩ = some (.slice A0_0 l0_0.length c0_0) := (blk_cell (HM.out.box 0 rfl) 0).trans rfl; have hfz3_0 := blk_frozen (HM.out.box 0 rfl) 0) | ((with_reducible refine gate_callee (f := 52) rfl ?_); (with_reducible refine gate_dst (N := 4) rfl ?_); refine goesL_ (some 4) rfl rfl Try.func52 (by kernel_rfl) rfl #[.agg #[.slice A0_0 l0_0.length c0_0]] rfl (by (try simp only [List.map_toArray, List.map_cons, List.map_nil]); first | done | rfl | (simp only [List.length_drop, List.length_take]; rfl)) ?_; (with_reducible refine (impl_isFamily.calls k _ _ l0_0 t208 _ ?sd0 ?sd1 A1_.out).mono ?_); (case sd0 => exact (Kd.C_below HR0_0.out HM.out.below)); (case sd1 => exact HC0_0.out); rintro e_ w4_ ⟨rfl, hb⟩; refine ⟨_, rfl, ?_⟩; have n_ := Aside0.mk (HM.out.step hb); clear HM; have HM := n_; clear n_; clear hb))
  go_ret
  exact ⟨by first | rfl | (simp; done) | (simp [*]; done), HM.out.below⟩

/-! ### impl_areFamilies: function 56 -/
def impl_areFamilies.f (k : Nat) (l0 : List (List Int)) : Option (Bool) := (slices_ContainsFunc_impl_Family_impl_Family.f k l0 (fun x_ => impl_areFamilies_1.f k x_)).bind fun t210 => (some (!t210))
set_option maxHeartbeats 8000000 in
set_option maxRecDepth 100000 in
theorem impl_areFamilies.calls (k : Nat) (A0 : Option Addr) (c0 : Nat) (l0 : List (List Int)) (r : Bool) (w : World) (hr0 : Kd.C (Kd.slice 3 (Kd.int .i64)) w A0 l0.length l0) (hc0 : l0.length ≤ c0) (h : impl_areFamilies.f k l0 = some r) :
    Calls Try.prog 56 #[.slice A0 l0.length c0] w fun e w' => e = .returned (.bool r) ∧ Below w.heap.size w w' := by
  have HR0 := Aside0.mk hr0
  have HC0 := Aside0.mk hc0
  clear hr0 hc0
  have HM := Aside0.mk (MS.start w)
  have H : ((slices_ContainsFunc_impl_Family_impl_Family.f k l0 (fun x_ => impl_areFamilies_1.f k x_)).bind fun t210 => (some (!t210))) = some r := h
  clear h
  replace H := Option.bind_eq_some_iff.mp H
  obtain ⟨t210, A1_0, H⟩ := H
  replace H : (some (!t210)) = some r := H
  have A1_ := Aside0.mk A1_0
  clear A1_0
  obtain rfl := Option.some.inj H
  have fv209 := Aside0.mk (show FnR Try.prog w (.func (.func 74) #[] #[]) (fun v_ => .agg #[v_]) (fun x_ => impl_areFamilies_1.f k x_) from FnR.mk Try.func74 rfl rfl (fun W_ hW_ A_ c_ x_ r_ hC_ hc_ hr_ => (show Calls Try.prog 74 #[.agg #[.slice A_ x_.length c_]] W_ _ from impl_areFamilies_1.calls k A_ c_ x_ r_ W_ hC_ hc_ hr_)))
  go_enter Try.func56, Try.ntmps56
  go_wp2_with (first | ((with_reducible refine gate_callee (f := 73) rfl ?_); (with_reducible refine gate_dst (N := 4) rfl ?_); refine goesL_ (some 4) rfl rfl Try.func73 (by kernel_rfl) rfl #[.slice A0 l0.length c0, .func (.func 74) #[] #[]] rfl (by (try simp only [List.map_toArray, List.map_cons, List.map_nil]); first | done | rfl | (simp only [List.length_drop, List.length_take]; rfl)) ?_; (with_reducible refine (slices_ContainsFunc_impl_Family_impl_Family.calls k _ _ l0 _ (fun x_ => impl_areFamilies_1.f k x_) t210 _ ?sd0 ?sd1 ?sd2 A1_.out).mono ?_); (case sd0 => exact (Kd.C_below HR0.out HM.out.below)); (case sd1 => exact HC0.out); (case sd2 => exact fv209.out); rintro e_ w2_ ⟨rfl, hb⟩; refine ⟨_, rfl, ?_⟩; have n_ := Aside0.mk (HM.out.step hb); clear HM; have HM := n_; clear n_; clear hb))
  go_ret
  exact ⟨by first | rfl | (simp; done) | (simp [*]; done), HM.out.below⟩

/-! ### impl_AndFamily_1: function 57 -/
def impl_AndFamily_1.f (k : Nat) (a0 : Int) (l1_0 : List Int) (l2_0 : List Int) : Option (Bool) := (impl_Family_has.f k l1_0 a0).bind fun t211 => (if t211 = true then ((impl_Family_has.f k l2_0 a0).bind fun t212 => (some t212)) else (some false))
set_option maxHeartbeats 8000000 in
set_option maxRecDepth 100000 in
theorem impl_AndFamily_1.calls (k : Nat) (a0 : Int) (gb1 : Nat) (A1_0 : Option Addr) (c1_0 : Nat) (l1_0 : List Int) (gb2 : Nat) (A2_0 : Option Addr) (c2_0 : Nat) (l2_0 : List Int) (r : Bool) (w : World) (hr1_0 : Kd.C (Kd.int .i64) w A1_0 l1_0.length l1_0) (hc1_0 : l1_0.length ≤ c1_0) (hq1 : w.heap[gb1]? = some (.cells #[.slice A1_0 l1_0.length c1_0] 24 (0, 0))) (hr2_0 : Kd.C (Kd.int .i64) w A2_0 l2_0.length l2_0) (hc2_0 : l2_0.length ≤ c2_0) (hq2 : w.heap[gb2]? = some (.cells #[.slice A2_0 l2_0.length c2_0] 24 (0, 0))) (h : impl_AndFamily_1.f k a0 l1_0 l2_0 = some r) :
    Calls Try.prog 57 #[.int .i64 a0, .pointer (some ⟨gb1, 0, none⟩), .pointer (some ⟨gb2, 0, none⟩)] w fun e w' => e = .returned (.bool r) ∧ Below w.heap.size w w' := by
  have HR1_0 := Aside0.mk hr1_0
  have HC1_0 := Aside0.mk hc1_0
  clear hr1_0 hc1_0
  have HQ1 := Aside0.mk hq1
  clear hq1
  have HR2_0 := Aside0.mk hr2_0
  have HC2_0 := Aside0.mk hc2_0
  clear hr2_0 hc2_0
  have HQ2 := Aside0.mk hq2
  clear hq2
  have hu24 := Try.underlying24
  have HM := Aside0.mk (MS.start w)
  have H : ((impl_Family_has.f k l1_0 a0).bind fun t211 => (if t211 = true then ((impl_Family_has.f k l2_0 a0).bind fun t212 => (some t212)) else (some false))) = some r := h
  clear h
  replace H := Option.bind_eq_some_iff.mp H
  obtain ⟨t211, A1_0, H⟩ := H
  replace H : (if t211 = true then ((impl_Family_has.f k l2_0 a0).bind fun t212 => (some t212)) else (some false)) = some r := H
  have A1_ := Aside0.mk A1_0
  clear A1_0
  by_cases c2_ : t211 = true
  · subst c2_
    have H1 : ((impl_Family_has.f k l2_0 a0).bind fun t212 => (some t212)) = some r := by rw [if_pos rfl] at H; exact H
    clear H
    have H := H1
    clear H1
    replace H := Option.bind_eq_some_iff.mp H
    obtain ⟨t212, A3_0, H⟩ := H
    replace H : (some t212) = some r := H
    have A3_ := Aside0.mk A3_0
    clear A3_0
    obtain rfl := Option.some.inj H
    have hcz4_0 : w.cell? ⟨gb1, 0, none⟩ = some (.slice A1_0 l1_0.length c1_0) := (blk_cell (blk_below HQ1.out HM.out.below) 0).trans rfl
    have hfz4_0 := blk_frozen (blk_below HQ1.out HM.out.below) 0
    go_enter Try.func57, Try.ntmps57
    go_wp2_with (first | ((with_reducible refine gate_callee (f := 42) rfl ?_); (with_reducible refine gate_dst (N := 7) rfl ?_); refine goesL_ (some 7) rfl rfl Try.func42 (by kernel_rfl) rfl #[.agg #[.slice A1_0 l1_0.length c1_0], .int .i64 a0] rfl (by (try simp only [List.map_toArray, List.map_cons, List.map_nil]); first | done | rfl | (simp only [List.length_drop, List.length_take]; rfl)) ?_; (with_reducible refine (impl_Family_has.calls k _ _ l1_0 a0 true _ ?sd0 ?sd1 A1_.out).mono ?_); (case sd0 => exact (Kd.C_below HR1_0.out HM.out.below)); (case sd1 => exact HC1_0.out); rintro e_ w5_ ⟨rfl, hb⟩; refine ⟨_, rfl, ?_⟩; have n_ := Aside0.mk (HM.out.step hb); clear HM; have HM := n_; clear n_; clear hb; have hcz6_0 : w5_.cell? ⟨gb2, 0, none⟩ = some (.slice A2_0 l2_0.length c2_0) := (blk_cell (blk_below HQ2.out HM.out.below) 0).trans rfl; have hfz6_0 := blk_frozen (blk_below HQ2.out HM.out.below) 0) | (go_at_call 42; (refine calls_of_args (args' := #[.agg #[.slice A2_0 l2_0.length c2_0], .int .i64 a0]) (by first | done | rfl) ?_); (with_reducible refine (impl_Family_has.calls k _ _ l2_0 a0 t212 _ ?sd0 ?sd1 A3_.out).mono ?_); (case sd0 => exact (Kd.C_below HR2_0.out HM.out.below)); (case sd1 => exact HC2_0.out); rintro e_ w7_ ⟨rfl, hb⟩; have n_ := Aside0.mk (HM.out.step hb); clear HM; have HM := n_; clear n_; clear hb))
    go_ret
    exact ⟨by first | rfl | (simp; done) | (simp [*]; done), HM.out.below⟩
  · replace c2_ := Bool.eq_false_iff.mpr c2_
    subst c2_
    have H1 : (some false) = some r := by rw [if_neg (show ¬ (false = true) by decide)] at H; exact H
    clear H
    have H := H1
    clear H1
    obtain rfl := Option.some.inj H
    have hcz8_0 : w.cell? ⟨gb1, 0, none⟩ = some (.slice A1_0 l1_0.length c1_0) := (blk_cell (blk_below HQ1.out HM.out.below) 0).trans rfl
    have hfz8_0 := blk_frozen (blk_below HQ1.out HM.out.below) 0
    go_enter Try.func57, Try.ntmps57
    go_wp2_with (first | ((with_reducible refine gate_callee (f := 42) rfl ?_); (with_reducible refine gate_dst (N := 7) rfl ?_); refine goesL_ (some 7) rfl rfl Try.func42 (by kernel_rfl) rfl #[.agg #[.slice A1_0 l1_0.length c1_0], .int .i64 a0] rfl (by (try simp only [List.map_toArray, List.map_cons, List.map_nil]); first | done | rfl | (simp only [List.length_drop, List.length_take]; rfl)) ?_; (with_reducible refine (impl_Family_has.calls k _ _ l1_0 a0 false _ ?sd0 ?sd1 A1_.out).mono ?_); (case sd0 => exact (Kd.C_below HR1_0.out HM.out.below)); (case sd1 => exact HC1_0.out); rintro e_ w9_ ⟨rfl, hb⟩; refine ⟨_, rfl, ?_⟩; have n_ := Aside0.mk (HM.out.step hb); clear HM; have HM := n_; clear n_; clear hb))
    go_ret
    exact ⟨by first | rfl | (simp; done) | (simp [*]; done), HM.out.below⟩

/-! ### impl_AndFamily: function 28 -/
def impl_AndFamily.f (k : Nat) (l0_0 : List Int) (l1_0 : List Int) : Option (List Int × Bool) := (impl_areFamilies.f k [l0_0, l1_0]).bind fun t213 => (if t213 = true then ((impl_familyOf.f k (fun x_ => impl_AndFamily_1.f k x_ l0_0 l1_0)).bind fun t215 => (some (t215, true))) else (some ([], false)))
set_option maxHeartbeats 8000000 in
set_option maxRecDepth 100000 in
theorem impl_AndFamily.calls (k : Nat) (A0_0 : Option Addr) (c0_0 : Nat) (l0_0 : List Int) (A1_0 : Option Addr) (c1_0 : Nat) (l1_0 : List Int) (r1 : List Int) (r2 : Bool) (w : World) (hr0_0 : Kd.C (Kd.int .i64) w A0_0 l0_0.length l0_0) (hc0_0 : l0_0.length ≤ c0_0) (hr1_0 : Kd.C (Kd.int .i64) w A1_0 l1_0.length l1_0) (hc1_0 : l1_0.length ≤ c1_0) (h : impl_AndFamily.f k l0_0 l1_0 = some (r1, r2)) :
    Calls Try.prog 28 #[.agg #[.slice A0_0 l0_0.length c0_0], .agg #[.slice A1_0 l1_0.length c1_0]] w fun e w' => ∃ v0_ : Value, e = .returned (.tuple #[.agg #[v0_], .bool r2]) ∧ Kd.R (Kd.int .i64) 3 w' w.heap.size (fun _ => True) v0_ r1 ∧ Below w.heap.size w w' := by
  have HR0_0 := Aside0.mk hr0_0
  have HC0_0 := Aside0.mk hc0_0
  clear hr0_0 hc0_0
  have HR1_0 := Aside0.mk hr1_0
  have HC1_0 := Aside0.mk hc1_0
  clear hr1_0 hc1_0
  have hu24 := Try.underlying24
  have HM := Aside0.mk (MS.start w)
  have H : ((impl_areFamilies.f k [l0_0, l1_0]).bind fun t213 => (if t213 = true then ((impl_familyOf.f k (fun x_ => impl_AndFamily_1.f k x_ l0_0 l1_0)).bind fun t215 => (some (t215, true))) else (some ([], false)))) = some (r1, r2) := h
  clear h
  replace H := Option.bind_eq_some_iff.mp H
  obtain ⟨t213, A1_0, H⟩ := H
  replace H : (if t213 = true then ((impl_familyOf.f k (fun x_ => impl_AndFamily_1.f k x_ l0_0 l1_0)).bind fun t215 => (some (t215, true))) else (some ([], false))) = some (r1, r2) := H
  have A1_ := Aside0.mk A1_0
  clear A1_0
  by_cases c2_ : t213 = true
  · subst c2_
    have H1 : ((impl_familyOf.f k (fun x_ => impl_AndFamily_1.f k x_ l0_0 l1_0)).bind fun t215 => (some (t215, true))) = some (r1, r2) := by rw [if_pos rfl] at H; exact H
    clear H
    have H := H1
    clear H1
    replace H := Option.bind_eq_some_iff.mp H
    obtain ⟨t215, A3_0, H⟩ := H
    replace H : (some (t215, true)) = some (r1, r2) := H
    have A3_ := Aside0.mk A3_0
    clear A3_0
    simp only [Option.some.injEq, Prod.mk.injEq] at H
    obtain ⟨rfl, rfl⟩ := H
    go_enter Try.func28, Try.ntmps28
    go_wp2_with (first | ((with_reducible refine gate_dst (N := 2) rfl ?_); refine box_event ?hg (N := 2) ?hd (cs := #[.slice A0_0 l0_0.length c0_0]) (t := 24) ?hr ?_; (case hd => rfl); (case hg => rfl); (case hr => first | (go_simp; done) | (go_simp; rfl)); intro gb1 hg w4_ hbox hb; have n_ := Aside0.mk (HM.out.addBox hb hbox hg); clear HM; have HM := n_; clear n_; clear hb hbox hg) | ((with_reducible refine gate_dst (N := 3) rfl ?_); refine box_event ?hg (N := 3) ?hd (cs := #[.slice A1_0 l1_0.length c1_0]) (t := 24) ?hr ?_; (case hd => rfl); (case hg => rfl); (case hr => first | (go_simp; done) | (go_simp; rfl)); intro gb2 hg w5_ hbox hb; have n_ := Aside0.mk (HM.out.addBox hb hbox hg); clear HM; have HM := n_; clear n_; clear hb hbox hg) | ((with_reducible refine gate_dst (N := 4) rfl ?_); refine box_event ?hg (N := 4) ?hd (cs := #[.slice none 0 0]) (t := 24) ?hr ?_; (case hd => rfl); (case hg => rfl); (case hr => first | (go_simp; done) | (go_simp; rfl)); intro gb3 hg w6_ hbox hb; have n_ := Aside0.mk (HM.out.addBox hb hbox hg); clear HM; have HM := n_; clear n_; clear hb hbox hg; have hcz7_0 : w6_.cell? ⟨gb1, 0, none⟩ = some (.slice A0_0 l0_0.length c0_0) := (blk_cell (HM.out.box 2 rfl) 0).trans rfl; have hfz7_0 := blk_frozen (HM.out.box 2 rfl) 0; have hcz8_0 : w6_.cell? ⟨gb2, 0, none⟩ = some (.slice A1_0 l1_0.length c1_0) := (blk_cell (HM.out.box 1 rfl) 0).trans rfl; have hfz8_0 := blk_frozen (HM.out.box 1 rfl) 0) | ((with_reducible refine gate_dst (N := 8) rfl ?_); refine Kd.event_run (v := .slice (some ⟨w6_.heap.size, 0, none⟩) 2 2) (w1 := w6_.alloc (.cells [.slice A0_0 l0_0.length c0_0, .slice A1_0 l1_0.length c1_0].toArray 24)) rfl ?hr ?_; (case hr => first | (go_simp; done) | (go_simp; rfl)); obtain ⟨gb4, hgb_⟩ : ∃ g_ : Nat, g_ = w6_.heap.size := ⟨_, rfl⟩; rw [← hgb_]; obtain ⟨w9_, hw_⟩ : ∃ w_ : World, w_ = w6_.alloc (.cells [.slice A0_0 l0_0.length c0_0, .slice A1_0 l1_0.length c1_0].toArray 24) := ⟨_, rfl⟩; rw [← hw_]; have n_ := Aside0.mk (HM.out.addLit [.slice A0_0 l0_0.length c0_0, .slice A1_0 l1_0.length c1_0] 24 (by simp) hgb_ hw_); clear HM; have HM := n_; clear n_; clear hgb_ hw_) | ((with_reducible refine gate_callee (f := 56) rfl ?_); (with_reducible refine gate_dst (N := 9) rfl ?_); refine goesL_ (some 9) rfl rfl Try.func56 (by kernel_rfl) rfl #[.slice (some ⟨gb4, 0, none⟩) [l0_0, l1_0].length 2] rfl (by (try simp only [List.map_toArray, List.map_cons, List.map_nil]); first | done | rfl | (simp only [List.length_drop, List.length_take]; rfl)) ?_; (with_reducible refine (impl_areFamilies.calls k _ _ [l0_0, l1_0] true _ ?sd0 ?sd1 A1_.out).mono ?_); (case sd0 => exact (HM.out.rows (d := (Kd.slice 3 (Kd.int .i64))) (xs := [l0_0, l1_0]) 0 rfl rfl (Reps.one (show (Kd.slice 3 (Kd.int .i64)).K _ l0_0 [.slice A0_0 l0_0.length c0_0] from ⟨A0_0, c0_0, rfl, HC0_0.out, (Kd.C_below HR0_0.out HM.out.below)⟩) (Reps.one (show (Kd.slice 3 (Kd.int .i64)).K _ l1_0 [.slice A1_0 l1_0.length c1_0] from ⟨A1_0, c1_0, rfl, HC1_0.out, (Kd.C_below HR1_0.out HM.out.below)⟩) (Reps.none _ _))) rfl).1); (case sd1 => exact (HM.out.rows (d := (Kd.slice 3 (Kd.int .i64))) (xs := [l0_0, l1_0]) 0 rfl rfl (Reps.one (show (Kd.slice 3 (Kd.int .i64)).K _ l0_0 [.slice A0_0 l0_0.length c0_0] from ⟨A0_0, c0_0, rfl, HC0_0.out, (Kd.C_below HR0_0.out HM.out.below)⟩) (Reps.one (show (Kd.slice 3 (Kd.int .i64)).K _ l1_0 [.slice A1_0 l1_0.length c1_0] from ⟨A1_0, c1_0, rfl, HC1_0.out, (Kd.C_below HR1_0.out HM.out.below)⟩) (Reps.none _ _))) rfl).2); rintro e_ w10_ ⟨rfl, hb⟩; refine ⟨_, rfl, ?_⟩; have n_ := Aside0.mk (HM.out.step hb); clear HM; have HM := n_; clear n_; clear hb; have fv214 := Aside0.mk (show FnB Try.prog w10_ (.func (.func 57) #[] #[.pointer (some ⟨gb1, 0, none⟩), .pointer (some ⟨gb2, 0, none⟩)]) (fun x_ => impl_AndFamily_1.f k x_ l0_0 l1_0) from FnB.mk Try.func57 rfl rfl (fun W_ hW_ x_ r_ hr_ => (show Calls Try.prog 57 #[.int .i64 x_, .pointer (some ⟨gb1, 0, none⟩), .pointer (some ⟨gb2, 0, none⟩)] W_ _ from impl_AndFamily_1.calls k x_ _ _ _ l0_0 _ _ _ l1_0 r_ W_ (Kd.C_below HR0_0.out (below_step HM.out.below hW_)) HC0_0.out (blk_below (HM.out.box 3 rfl) hW_) (Kd.C_below HR1_0.out (below_step HM.out.below hW_)) HC1_0.out (blk_below (HM.out.box 2 rfl) hW_) hr_)))) | ((with_reducible refine gate_callee (f := 41) rfl ?_); (with_reducible refine gate_dst (N := 13) rfl ?_); refine goesL_ (some 13) rfl rfl Try.func41 (by kernel_rfl) rfl #[.func (.func 57) #[] #[.pointer (some ⟨gb1, 0, none⟩), .pointer (some ⟨gb2, 0, none⟩)]] rfl (by (try simp only [List.map_toArray, List.map_cons, List.map_nil]); first | done | rfl | (simp only [List.length_drop, List.length_take]; rfl)) ?_; (with_reducible refine (impl_familyOf.calls k _ (fun x_ => impl_AndFamily_1.f k x_ l0_0 l1_0) t215 _ ?sd0 A3_.out).mono ?_); (case sd0 => exact fv214.out); rintro e_ w11_ ⟨vv0_, rfl, ho0_, hb⟩; refine ⟨_, rfl, ?_⟩; obtain ⟨Ao5_0, co5_0, ev_⟩ := Kd.R_slice ho0_; subst ev_; have n_ := Aside0.mk (HM.out.addR hb ho0_); clear HM; have HM := n_; clear n_; clear hb ho0_; have hcz13_0 : w11_.cell? ⟨gb3, 0, none⟩ = some (.slice none 0 0) := (blk_cell (HM.out.box 2 rfl) 0).trans rfl; have hfz13_0 := blk_frozen (HM.out.box 2 rfl) 0) | ((with_reducible refine gate_store (t := 24) (p := 4) rfl ?_); refine store_event (t := 24) (p := 4) (v := ?vow12_) (w1 := (w11_.setCell ⟨gb3, 0, none⟩ (.slice Ao5_0 t215.length co5_0))) ?hg ?ho ?hn ?hr ?_; (case ho => rfl); (case hg => rfl); (case hn => rfl); (case hr => first | (go_simp; done) | (go_simp; rfl)); intro w12_ hw; have n_ : Aside0 (MS w w12_ [.row 3 (.slice Ao5_0 t215.length co5_0) (encs (Value.int .i64) t215), .row 24 (.slice (some ⟨gb4, 0, none⟩) 2 2) [.slice A0_0 l0_0.length c0_0, .slice A1_0 l1_0.length c1_0], .box gb3 24 #[.slice Ao5_0 t215.length co5_0], .box gb2 24 #[.slice A1_0 l1_0.length c1_0], .box gb1 24 #[.slice A0_0 l0_0.length c0_0]]) := ⟨by rw [hw]; exact HM.out.setBox 2 rfl _ _ rfl⟩; clear HM hw; have HM := n_; clear n_))
    refine bodyPost_ret (results_ct rfl _ _ gb3 24 #[.slice Ao5_0 t215.length co5_0] (0, 0) _ rfl (HM.out.box 2 rfl) Try.underlying24 rfl (by kernel_rfl)) rfl ?_
    exact ⟨_, by first | rfl | (simp; done) | (simp [*]; done), HM.out.R 0 rfl, HM.out.below⟩
  · replace c2_ := Bool.eq_false_iff.mpr c2_
    subst c2_
    have H1 : (some ([], false)) = some (r1, r2) := by rw [if_neg (show ¬ (false = true) by decide)] at H; exact H
    clear H
    have H := H1
    clear H1
    simp only [Option.some.injEq, Prod.mk.injEq] at H
    obtain ⟨rfl, rfl⟩ := H
    go_enter Try.func28, Try.ntmps28
    go_wp2_with (first | ((with_reducible refine gate_dst (N := 2) rfl ?_); refine box_event ?hg (N := 2) ?hd (cs := #[.slice A0_0 l0_0.length c0_0]) (t := 24) ?hr ?_; (case hd => rfl); (case hg => rfl); (case hr => first | (go_simp; done) | (go_simp; rfl)); intro gb1 hg w14_ hbox hb; have n_ := Aside0.mk (HM.out.addBox hb hbox hg); clear HM; have HM := n_; clear n_; clear hb hbox hg) | ((with_reducible refine gate_dst (N := 3) rfl ?_); refine box_event ?hg (N := 3) ?hd (cs := #[.slice A1_0 l1_0.length c1_0]) (t := 24) ?hr ?_; (case hd => rfl); (case hg => rfl); (case hr => first | (go_simp; done) | (go_simp; rfl)); intro gb2 hg w15_ hbox hb; have n_ := Aside0.mk (HM.out.addBox hb hbox hg); clear HM; have HM := n_; clear n_; clear hb hbox hg) | ((with_reducible refine gate_dst (N := 4) rfl ?_); refine box_event ?hg (N := 4) ?hd (cs := #[.slice none 0 0]) (t := 24) ?hr ?_; (case hd => rfl); (case hg => rfl); (case hr => first | (go_simp; done) | (go_simp; rfl)); intro gb3 hg w16_ hbox hb; have n_ := Aside0.mk (HM.out.addBox hb hbox hg); clear HM; have HM := n_; clear n_; clear hb hbox hg; have hcz17_0 : w16_.cell? ⟨gb1, 0, none⟩ = some (.slice A0_0 l0_0.length c0_0) := (blk_cell (HM.out.box 2 rfl) 0).trans rfl; have hfz17_0 := blk_frozen (HM.out.box 2 rfl) 0; have hcz18_0 : w16_.cell? ⟨gb2, 0, none⟩ = some (.slice A1_0 l1_0.length c1_0) := (blk_cell (HM.out.box 1 rfl) 0).trans rfl; have hfz18_0 := blk_frozen (HM.out.box 1 rfl) 0) | ((with_reducible refine gate_dst (N := 8) rfl ?_); refine Kd.event_run (v := .slice (some ⟨w16_.heap.size, 0, none⟩) 2 2) (w1 := w16_.alloc (.cells [.slice A0_0 l0_0.length c0_0, .slice A1_0 l1_0.length c1_0].toArray 24)) rfl ?hr ?_; (case hr => first | (go_simp; done) | (go_simp; rfl)); obtain ⟨gb4, hgb_⟩ : ∃ g_ : Nat, g_ = w16_.heap.size := ⟨_, rfl⟩; rw [← hgb_]; obtain ⟨w19_, hw_⟩ : ∃ w_ : World, w_ = w16_.alloc (.cells [.slice A0_0 l0_0.length c0_0, .slice A1_0 l1_0.length c1_0].toArray 24) := ⟨_, rfl⟩; rw [← hw_]; have n_ := Aside0.mk (HM.out.addLit [.slice A0_0 l0_0.length c0_0, .slice A1_0 l1_0.length c1_0] 24 (by simp) hgb_ hw_); clear HM; have HM := n_; clear n_; clear hgb_ hw_) | ((with_reducible refine gate_callee (f := 56) rfl ?_); (with_reducible refine gate_dst (N := 9) rfl ?_); refine goesL_ (some 9) rfl rfl Try.func56 (by kernel_rfl) rfl #[.slice (some ⟨gb4, 0, none⟩) [l0_0, l1_0].length 2] rfl (by (try simp only [List.map_toArray, List.map_cons, List.map_nil]); first | done | rfl | (simp only [List.length_drop, List.length_take]; rfl)) ?_; (with_reducible refine (impl_areFamilies.calls k _ _ [l0_0, l1_0] false _ ?sd0 ?sd1 A1_.out).mono ?_); (case sd0 => exact (HM.out.rows (d := (Kd.slice 3 (Kd.int .i64))) (xs := [l0_0, l1_0]) 0 rfl rfl (Reps.one (show (Kd.slice 3 (Kd.int .i64)).K _ l0_0 [.slice A0_0 l0_0.length c0_0] from ⟨A0_0, c0_0, rfl, HC0_0.out, (Kd.C_below HR0_0.out HM.out.below)⟩) (Reps.one (show (Kd.slice 3 (Kd.int .i64)).K _ l1_0 [.slice A1_0 l1_0.length c1_0] from ⟨A1_0, c1_0, rfl, HC1_0.out, (Kd.C_below HR1_0.out HM.out.below)⟩) (Reps.none _ _))) rfl).1); (case sd1 => exact (HM.out.rows (d := (Kd.slice 3 (Kd.int .i64))) (xs := [l0_0, l1_0]) 0 rfl rfl (Reps.one (show (Kd.slice 3 (Kd.int .i64)).K _ l0_0 [.slice A0_0 l0_0.length c0_0] from ⟨A0_0, c0_0, rfl, HC0_0.out, (Kd.C_below HR0_0.out HM.out.below)⟩) (Reps.one (show (Kd.slice 3 (Kd.int .i64)).K _ l1_0 [.slice A1_0 l1_0.length c1_0] from ⟨A1_0, c1_0, rfl, HC1_0.out, (Kd.C_below HR1_0.out HM.out.below)⟩) (Reps.none _ _))) rfl).2); rintro e_ w20_ ⟨rfl, hb⟩; refine ⟨_, rfl, ?_⟩; have n_ := Aside0.mk (HM.out.step hb); clear HM; have HM := n_; clear n_; clear hb; have hcz22_0 : w20_.cell? ⟨gb3, 0, none⟩ = some (.slice none 0 0) := (blk_cell (HM.out.box 1 rfl) 0).trans rfl; have hfz22_0 := blk_frozen (HM.out.box 1 rfl) 0) | ((with_reducible refine gate_store (t := 24) (p := 4) rfl ?_); refine store_event (t := 24) (p := 4) (v := ?vow21_) (w1 := (w20_.setCell ⟨gb3, 0, none⟩ (.slice none 0 0))) ?hg ?ho ?hn ?hr ?_; (case ho => rfl); (case hg => rfl); (case hn => rfl); (case hr => first | (go_simp; done) | (go_simp; rfl)); intro w21_ hw; have n_ : Aside0 (MS w w21_ [.row 24 (.slice (some ⟨gb4, 0, none⟩) 2 2) [.slice A0_0 l0_0.length c0_0, .slice A1_0 l1_0.length c1_0], .box gb3 24 #[.slice none 0 0], .box gb2 24 #[.slice A1_0 l1_0.length c1_0], .box gb1 24 #[.slice A0_0 l0_0.length c0_0]]) := ⟨by rw [hw]; exact HM.out.setBox 1 rfl _ _ rfl⟩; clear HM hw; have HM := n_; clear n_))
    refine bodyPost_ret (results_ct rfl _ _ gb3 24 #[.slice none 0 0] (0, 0) _ rfl (HM.out.box 1 rfl) Try.underlying24 rfl (by kernel_rfl)) rfl ?_
    exact ⟨_, by first | rfl | (simp; done) | (simp [*]; done), Kd.R_nil _ _ _ _ _, HM.out.below⟩

/-! ### spec_OrFamily: function 29 -/
def spec_OrFamily.f (k : Nat) (l0_0 : List Int) (l1_0 : List Int) : Option (List Int × Bool) := (spec_l5Both.f k l0_0 l1_0 false).bind fun bt216 => (some (bt216.1, bt216.2))
set_option maxHeartbeats 8000000 in
set_option maxRecDepth 100000 in
theorem spec_OrFamily.calls (k : Nat) (A0_0 : Option Addr) (c0_0 : Nat) (l0_0 : List Int) (A1_0 : Option Addr) (c1_0 : Nat) (l1_0 : List Int) (r1 : List Int) (r2 : Bool) (w : World) (hr0_0 : Kd.C (Kd.int .i64) w A0_0 l0_0.length l0_0) (hc0_0 : l0_0.length ≤ c0_0) (hr1_0 : Kd.C (Kd.int .i64) w A1_0 l1_0.length l1_0) (hc1_0 : l1_0.length ≤ c1_0) (h : spec_OrFamily.f k l0_0 l1_0 = some (r1, r2)) :
    Calls Try.prog 29 #[.agg #[.slice A0_0 l0_0.length c0_0], .agg #[.slice A1_0 l1_0.length c1_0]] w fun e w' => ∃ v0_ : Value, e = .returned (.tuple #[.agg #[v0_], .bool r2]) ∧ Kd.R (Kd.int .i64) 3 w' w.heap.size (fun _ => True) v0_ r1 ∧ Below w.heap.size w w' := by
  have HR0_0 := Aside0.mk hr0_0
  have HC0_0 := Aside0.mk hc0_0
  clear hr0_0 hc0_0
  have HR1_0 := Aside0.mk hr1_0
  have HC1_0 := Aside0.mk hc1_0
  clear hr1_0 hc1_0
  have hu24 := Try.underlying24
  have HM := Aside0.mk (MS.start w)
  have H : ((spec_l5Both.f k l0_0 l1_0 false).bind fun bt216 => (some (bt216.1, bt216.2))) = some (r1, r2) := h
  clear h
  replace H := Option.bind_eq_some_iff.mp H
  obtain ⟨⟨t216, t217⟩, A1_0, H⟩ := H
  replace H : (some (t216, t217)) = some (r1, r2) := H
  have A1_ := Aside0.mk A1_0
  clear A1_0
  simp only [Option.some.injEq, Prod.mk.injEq] at H
  obtain ⟨rfl, rfl⟩ := H
  go_enter Try.func29, Try.ntmps29
  go_wp2_with (first | ((with_reducible refine gate_dst (N := 2) rfl ?_); refine box_event ?hg (N := 2) ?hd (cs := #[.slice A0_0 l0_0.length c0_0]) (t := 24) ?hr ?_; (case hd => rfl); (case hg => rfl); (case hr => first | (go_simp; done) | (go_simp; rfl)); intro gb1 hg w2_ hbox hb; have n_ := Aside0.mk (HM.out.addBox hb hbox hg); clear HM; have HM := n_; clear n_; clear hb hbox hg) | ((with_reducible refine gate_dst (N := 3) rfl ?_); refine box_event ?hg (N := 3) ?hd (cs := #[.slice A1_0 l1_0.length c1_0]) (t := 24) ?hr ?_; (case hd => rfl); (case hg => rfl); (case hr => first | (go_simp; done) | (go_simp; rfl)); intro gb2 hg w3_ hbox hb; have n_ := Aside0.mk (HM.out.addBox hb hbox hg); clear HM; have HM := n_; clear n_; clear hb hbox hg) | ((with_reducible refine gate_dst (N := 4) rfl ?_); refine box_event ?hg (N := 4) ?hd (cs := #[.slice none 0 0]) (t := 24) ?hr ?_; (case hd => rfl); (case hg => rfl); (case hr => first | (go_simp; done) | (go_simp; rfl)); intro gb3 hg w4_ hbox hb; have n_ := Aside0.mk (HM.out.addBox hb hbox hg); clear HM; have HM := n_; clear n_; clear hb hbox hg; have hcz5_0 : w4_.cell? ⟨gb1, 0, none⟩ = some (.slice A0_0 l0_0.length c0_0) := (blk_cell (HM.out.box 2 rfl) 0).trans rfl; have hfz5_0 := blk_frozen (HM.out.box 2 rfl) 0; have hcz6_0 : w4_.cell? ⟨gb2, 0, none⟩ = some (.slice A1_0 l1_0.length c1_0) := (blk_cell (HM.out.box 1 rfl) 0).trans rfl; have hfz6_0 := blk_frozen (HM.out.box 1 rfl) 0) | ((with_reducible refine gate_callee (f := 55) rfl ?_); (with_reducible refine gate_dst (N := 8) rfl ?_); refine goesL_ (some 8) rfl rfl Try.func55 (by kernel_rfl) rfl #[.agg #[.slice A0_0 l0_0.length c0_0], .agg #[.slice A1_0 l1_0.length c1_0], .bool false] rfl (by (try simp only [List.map_toArray, List.map_cons, List.map_nil]); first | done | rfl | (simp only [List.length_drop, List.length_take]; rfl)) ?_; (with_reducible refine (spec_l5Both.calls k _ _ l0_0 _ _ l1_0 false t216 t217 _ ?sd0 ?sd1 ?sd2 ?sd3 A1_.out).mono ?_); (case sd0 => exact (Kd.C_below HR0_0.out HM.out.below)); (case sd1 => exact HC0_0.out); (case sd2 => exact (Kd.C_below HR1_0.out HM.out.below)); (case sd3 => exact HC1_0.out); rintro e_ w7_ ⟨vv0_, rfl, ho0_, hb⟩; refine ⟨_, rfl, ?_⟩; obtain ⟨Ao4_0, co4_0, ev_⟩ := Kd.R_slice ho0_; subst ev_; have n_ := Aside0.mk (HM.out.addR hb ho0_); clear HM; have HM := n_; clear n_; clear hb ho0_; have hcz9_0 : w7_.cell? ⟨gb3, 0, none⟩ = some (.slice none 0 0) := (blk_cell (HM.out.box 1 rfl) 0).trans rfl; have hfz9_0 := blk_frozen (HM.out.box 1 rfl) 0) | ((with_reducible refine gate_store (t := 24) (p := 4) rfl ?_); refine store_event (t := 24) (p := 4) (v := ?vow8_) (w1 := (w7_.setCell ⟨gb3, 0, none⟩ (.slice Ao4_0 t216.length co4_0))) ?hg ?ho ?hn ?hr ?_; (case ho => rfl); (case hg => rfl); (case hn => rfl); (case hr => first | (go_simp; done) | (go_simp; rfl)); intro w8_ hw; have n_ : Aside0 (MS w w8_ [.row 3 (.slice Ao4_0 t216.length co4_0) (encs (Value.int .i64) t216), .box gb3 24 #[.slice Ao4_0 t216.length co4_0], .box gb2 24 #[.slice A1_0 l1_0.length c1_0], .box gb1 24 #[.slice A0_0 l0_0.length c0_0]]) := ⟨by rw [hw]; exact HM.out.setBox 1 rfl _ _ rfl⟩; clear HM hw; have HM := n_; clear n_))
  refine bodyPost_ret (results_ct rfl _ _ gb3 24 #[.slice Ao4_0 t216.length co4_0] (0, 0) _ rfl (HM.out.box 1 rfl) Try.underlying24 rfl (by kernel_rfl)) rfl ?_
  exact ⟨_, by first | rfl | (simp; done) | (simp [*]; done), HM.out.R 0 rfl, HM.out.below⟩

/-! ### impl_OrFamily_1: function 58 -/
def impl_OrFamily_1.f (k : Nat) (a0 : Int) (l1_0 : List Int) (l2_0 : List Int) : Option (Bool) := (impl_Family_has.f k l1_0 a0).bind fun t218 => (if t218 = true then (some true) else ((impl_Family_has.f k l2_0 a0).bind fun t219 => (some t219)))
set_option maxHeartbeats 8000000 in
set_option maxRecDepth 100000 in
theorem impl_OrFamily_1.calls (k : Nat) (a0 : Int) (gb1 : Nat) (A1_0 : Option Addr) (c1_0 : Nat) (l1_0 : List Int) (gb2 : Nat) (A2_0 : Option Addr) (c2_0 : Nat) (l2_0 : List Int) (r : Bool) (w : World) (hr1_0 : Kd.C (Kd.int .i64) w A1_0 l1_0.length l1_0) (hc1_0 : l1_0.length ≤ c1_0) (hq1 : w.heap[gb1]? = some (.cells #[.slice A1_0 l1_0.length c1_0] 24 (0, 0))) (hr2_0 : Kd.C (Kd.int .i64) w A2_0 l2_0.length l2_0) (hc2_0 : l2_0.length ≤ c2_0) (hq2 : w.heap[gb2]? = some (.cells #[.slice A2_0 l2_0.length c2_0] 24 (0, 0))) (h : impl_OrFamily_1.f k a0 l1_0 l2_0 = some r) :
    Calls Try.prog 58 #[.int .i64 a0, .pointer (some ⟨gb1, 0, none⟩), .pointer (some ⟨gb2, 0, none⟩)] w fun e w' => e = .returned (.bool r) ∧ Below w.heap.size w w' := by
  have HR1_0 := Aside0.mk hr1_0
  have HC1_0 := Aside0.mk hc1_0
  clear hr1_0 hc1_0
  have HQ1 := Aside0.mk hq1
  clear hq1
  have HR2_0 := Aside0.mk hr2_0
  have HC2_0 := Aside0.mk hc2_0
  clear hr2_0 hc2_0
  have HQ2 := Aside0.mk hq2
  clear hq2
  have hu24 := Try.underlying24
  have HM := Aside0.mk (MS.start w)
  have H : ((impl_Family_has.f k l1_0 a0).bind fun t218 => (if t218 = true then (some true) else ((impl_Family_has.f k l2_0 a0).bind fun t219 => (some t219)))) = some r := h
  clear h
  replace H := Option.bind_eq_some_iff.mp H
  obtain ⟨t218, A1_0, H⟩ := H
  replace H : (if t218 = true then (some true) else ((impl_Family_has.f k l2_0 a0).bind fun t219 => (some t219))) = some r := H
  have A1_ := Aside0.mk A1_0
  clear A1_0
  by_cases c2_ : t218 = true
  · subst c2_
    have H1 : (some true) = some r := by rw [if_pos rfl] at H; exact H
    clear H
    have H := H1
    clear H1
    obtain rfl := Option.some.inj H
    have hcz3_0 : w.cell? ⟨gb1, 0, none⟩ = some (.slice A1_0 l1_0.length c1_0) := (blk_cell (blk_below HQ1.out HM.out.below) 0).trans rfl
    have hfz3_0 := blk_frozen (blk_below HQ1.out HM.out.below) 0
    go_enter Try.func58, Try.ntmps58
    go_wp2_with (first | ((with_reducible refine gate_callee (f := 42) rfl ?_); (with_reducible refine gate_dst (N := 7) rfl ?_); refine goesL_ (some 7) rfl rfl Try.func42 (by kernel_rfl) rfl #[.agg #[.slice A1_0 l1_0.length c1_0], .int .i64 a0] rfl (by (try simp only [List.map_toArray, List.map_cons, List.map_nil]); first | done | rfl | (simp only [List.length_drop, List.length_take]; rfl)) ?_; (with_reducible refine (impl_Family_has.calls k _ _ l1_0 a0 true _ ?sd0 ?sd1 A1_.out).mono ?_); (case sd0 => exact (Kd.C_below HR1_0.out HM.out.below)); (case sd1 => exact HC1_0.out); rintro e_ w4_ ⟨rfl, hb⟩; refine ⟨_, rfl, ?_⟩; have n_ := Aside0.mk (HM.out.step hb); clear HM; have HM := n_; clear n_; clear hb))
    go_ret
    exact ⟨by first | rfl | (simp; done) | (simp [*]; done), HM.out.below⟩
  · replace c2_ := Bool.eq_false_iff.mpr c2_
    subst c2_
    have H1 : ((impl_Family_has.f k l2_0 a0).bind fun t219 => (some t219)) = some r := by rw [if_neg (show ¬ (false = true) by decide)] at H; exact H
    clear H
    have H := H1
    clear H1
    replace H := Option.bind_eq_some_iff.mp H
    obtain ⟨t219, A5_0, H⟩ := H
    replace H : (some t219) = some r := H
    have A5_ := Aside0.mk A5_0
    clear A5_0
    obtain rfl := Option.some.inj H
    have hcz6_0 : w.cell? ⟨gb1, 0, none⟩ = some (.slice A1_0 l1_0.length c1_0) := (blk_cell (blk_below HQ1.out HM.out.below) 0).trans rfl
    have hfz6_0 := blk_frozen (blk_below HQ1.out HM.out.below) 0
    go_enter Try.func58, Try.ntmps58
    go_wp2_with (first | ((with_reducible refine gate_callee (f := 42) rfl ?_); (with_reducible refine gate_dst (N := 7) rfl ?_); refine goesL_ (some 7) rfl rfl Try.func42 (by kernel_rfl) rfl #[.agg #[.slice A1_0 l1_0.length c1_0], .int .i64 a0] rfl (by (try simp only [List.map_toArray, List.map_cons, List.map_nil]); first | done | rfl | (simp only [List.length_drop, List.length_take]; rfl)) ?_; (with_reducible refine (impl_Family_has.calls k _ _ l1_0 a0 false _ ?sd0 ?sd1 A1_.out).mono ?_); (case sd0 => exact (Kd.C_below HR1_0.out HM.out.below)); (case sd1 => exact HC1_0.out); rintro e_ w7_ ⟨rfl, hb⟩; refine ⟨_, rfl, ?_⟩; have n_ := Aside0.mk (HM.out.step hb); clear HM; have HM := n_; clear n_; clear hb; have hcz8_0 : w7_.cell? ⟨gb2, 0, none⟩ = some (.slice A2_0 l2_0.length c2_0) := (blk_cell (blk_below HQ2.out HM.out.below) 0).trans rfl; have hfz8_0 := blk_frozen (blk_below HQ2.out HM.out.below) 0) | (go_at_call 42; (refine calls_of_args (args' := #[.agg #[.slice A2_0 l2_0.length c2_0], .int .i64 a0]) (by first | done | rfl) ?_); (with_reducible refine (impl_Family_has.calls k _ _ l2_0 a0 t219 _ ?sd0 ?sd1 A5_.out).mono ?_); (case sd0 => exact (Kd.C_below HR2_0.out HM.out.below)); (case sd1 => exact HC2_0.out); rintro e_ w9_ ⟨rfl, hb⟩; have n_ := Aside0.mk (HM.out.step hb); clear HM; have HM := n_; clear n_; clear hb))
    go_ret
    exact ⟨by first | rfl | (simp; done) | (simp [*]; done), HM.out.below⟩

/-! ### impl_OrFamily: function 30 -/
def impl_OrFamily.f (k : Nat) (l0_0 : List Int) (l1_0 : List Int) : Option (List Int × Bool) := (impl_areFamilies.f k [l0_0, l1_0]).bind fun t220 => (if t220 = true then ((impl_familyOf.f k (fun x_ => impl_OrFamily_1.f k x_ l0_0 l1_0)).bind fun t222 => (some (t222, true))) else (some ([], false)))
set_option maxHeartbeats 8000000 in
set_option maxRecDepth 100000 in
theorem impl_OrFamily.calls (k : Nat) (A0_0 : Option Addr) (c0_0 : Nat) (l0_0 : List Int) (A1_0 : Option Addr) (c1_0 : Nat) (l1_0 : List Int) (r1 : List Int) (r2 : Bool) (w : World) (hr0_0 : Kd.C (Kd.int .i64) w A0_0 l0_0.length l0_0) (hc0_0 : l0_0.length ≤ c0_0) (hr1_0 : Kd.C (Kd.int .i64) w A1_0 l1_0.length l1_0) (hc1_0 : l1_0.length ≤ c1_0) (h : impl_OrFamily.f k l0_0 l1_0 = some (r1, r2)) :
    Calls Try.prog 30 #[.agg #[.slice A0_0 l0_0.length c0_0], .agg #[.slice A1_0 l1_0.length c1_0]] w fun e w' => ∃ v0_ : Value, e = .returned (.tuple #[.agg #[v0_], .bool r2]) ∧ Kd.R (Kd.int .i64) 3 w' w.heap.size (fun _ => True) v0_ r1 ∧ Below w.heap.size w w' := by
  have HR0_0 := Aside0.mk hr0_0
  have HC0_0 := Aside0.mk hc0_0
  clear hr0_0 hc0_0
  have HR1_0 := Aside0.mk hr1_0
  have HC1_0 := Aside0.mk hc1_0
  clear hr1_0 hc1_0
  have hu24 := Try.underlying24
  have HM := Aside0.mk (MS.start w)
  have H : ((impl_areFamilies.f k [l0_0, l1_0]).bind fun t220 => (if t220 = true then ((impl_familyOf.f k (fun x_ => impl_OrFamily_1.f k x_ l0_0 l1_0)).bind fun t222 => (some (t222, true))) else (some ([], false)))) = some (r1, r2) := h
  clear h
  replace H := Option.bind_eq_some_iff.mp H
  obtain ⟨t220, A1_0, H⟩ := H
  replace H : (if t220 = true then ((impl_familyOf.f k (fun x_ => impl_OrFamily_1.f k x_ l0_0 l1_0)).bind fun t222 => (some (t222, true))) else (some ([], false))) = some (r1, r2) := H
  have A1_ := Aside0.mk A1_0
  clear A1_0
  by_cases c2_ : t220 = true
  · subst c2_
    have H1 : ((impl_familyOf.f k (fun x_ => impl_OrFamily_1.f k x_ l0_0 l1_0)).bind fun t222 => (some (t222, true))) = some (r1, r2) := by rw [if_pos rfl] at H; exact H
    clear H
    have H := H1
    clear H1
    replace H := Option.bind_eq_some_iff.mp H
    obtain ⟨t222, A3_0, H⟩ := H
    replace H : (some (t222, true)) = some (r1, r2) := H
    have A3_ := Aside0.mk A3_0
    clear A3_0
    simp only [Option.some.injEq, Prod.mk.injEq] at H
    obtain ⟨rfl, rfl⟩ := H
    go_enter Try.func30, Try.ntmps30
    go_wp2_with (first | ((with_reducible refine gate_dst (N := 2) rfl ?_); refine box_event ?hg (N := 2) ?hd (cs := #[.slice A0_0 l0_0.length c0_0]) (t := 24) ?hr ?_; (case hd => rfl); (case hg => rfl); (case hr => first | (go_simp; done) | (go_simp; rfl)); intro gb1 hg w4_ hbox hb; have n_ := Aside0.mk (HM.out.addBox hb hbox hg); clear HM; have HM := n_; clear n_; clear hb hbox hg) | ((with_reducible refine gate_dst (N := 3) rfl ?_); refine box_event ?hg (N := 3) ?hd (cs := #[.slice A1_0 l1_0.length c1_0]) (t := 24) ?hr ?_; (case hd => rfl); (case hg => rfl); (case hr => first | (go_simp; done) | (go_simp; rfl)); intro gb2 hg w5_ hbox hb; have n_ := Aside0.mk (HM.out.addBox hb hbox hg); clear HM; have HM := n_; clear n_; clear hb hbox hg) | ((with_reducible refine gate_dst (N := 4) rfl ?_); refine box_event ?hg (N := 4) ?hd (cs := #[.slice none 0 0]) (t := 24) ?hr ?_; (case hd => rfl); (case hg => rfl); (case hr => first | (go_simp; done) | (go_simp; rfl)); intro gb3 hg w6_ hbox hb; have n_ := Aside0.mk (HM.out.addBox hb hbox hg); clear HM; have HM := n_; clear n_; clear hb hbox hg; have hcz7_0 : w6_.cell? ⟨gb1, 0, none⟩ = some (.slice A0_0 l0_0.length c0_0) := (blk_cell (HM.out.box 2 rfl) 0).trans rfl; have hfz7_0 := blk_frozen (HM.out.box 2 rfl) 0; have hcz8_0 : w6_.cell? ⟨gb2, 0, none⟩ = some (.slice A1_0 l1_0.length c1_0) := (blk_cell (HM.out.box 1 rfl) 0).trans rfl; have hfz8_0 := blk_frozen (HM.out.box 1 rfl) 0) | ((with_reducible refine gate_dst (N := 8) rfl ?_); refine Kd.event_run (v := .slice (some ⟨w6_.heap.size, 0, none⟩) 2 2) (w1 := w6_.alloc (.cells [.slice A0_0 l0_0.length c0_0, .slice A1_0 l1_0.length c1_0].toArray 24)) rfl ?hr ?_; (case hr => first | (go_simp; done) | (go_simp; rfl)); obtain ⟨gb4, hgb_⟩ : ∃ g_ : Nat, g_ = w6_.heap.size := ⟨_, rfl⟩; rw [← hgb_]; obtain ⟨w9_, hw_⟩ : ∃ w_ : World, w_ = w6_.alloc (.cells [.slice A0_0 l0_0.length c0_0, .slice A1_0 l1_0.length c1_0].toArray 24) := ⟨_, rfl⟩; rw [← hw_]; have n_ := Aside0.mk (HM.out.addLit [.slice A0_0 l0_0.length c0_0, .slice A1_0 l1_0.length c1_0] 24 (by simp) hgb_ hw_); clear HM; have HM := n_; clear n_; clear hgb_ hw_) | ((with_reducible refine gate_callee (f := 56) rfl ?_); (with_reducible refine gate_dst (N := 9) rfl ?_); refine goesL_ (some 9) rfl rfl Try.func56 (by kernel_rfl) rfl #[.slice (some ⟨gb4, 0, none⟩) [l0_0, l1_0].length 2] rfl (by (try simp only [List.map_toArray, List.map_cons, List.map_nil]); first | done | rfl | (simp only [List.length_drop, List.length_take]; rfl)) ?_; (with_reducible refine (impl_areFamilies.calls k _ _ [l0_0, l1_0] true _ ?sd0 ?sd1 A1_.out).mono ?_); (case sd0 => exact (HM.out.rows (d := (Kd.slice 3 (Kd.int .i64))) (xs := [l0_0, l1_0]) 0 rfl rfl (Reps.one (show (Kd.slice 3 (Kd.int .i64)).K _ l0_0 [.slice A0_0 l0_0.length c0_0] from ⟨A0_0, c0_0, rfl, HC0_0.out, (Kd.C_below HR0_0.out HM.out.below)⟩) (Reps.one (show (Kd.slice 3 (Kd.int .i64)).K _ l1_0 [.slice A1_0 l1_0.length c1_0] from ⟨A1_0, c1_0, rfl, HC1_0.out, (Kd.C_below HR1_0.out HM.out.below)⟩) (Reps.none _ _))) rfl).1); (case sd1 => exact (HM.out.rows (d := (Kd.slice 3 (Kd.int .i64))) (xs := [l0_0, l1_0]) 0 rfl rfl (Reps.one (show (Kd.slice 3 (Kd.int .i64)).K _ l0_0 [.slice A0_0 l0_0.length c0_0] from ⟨A0_0, c0_0, rfl, HC0_0.out, (Kd.C_below HR0_0.out HM.out.below)⟩) (Reps.one (show (Kd.slice 3 (Kd.int .i64)).K _ l1_0 [.slice A1_0 l1_0.length c1_0] from ⟨A1_0, c1_0, rfl, HC1_0.out, (Kd.C_below HR1_0.out HM.out.below)⟩) (Reps.none _ _))) rfl).2); rintro e_ w10_ ⟨rfl, hb⟩; refine ⟨_, rfl, ?_⟩; have n_ := Aside0.mk (HM.out.step hb); clear HM; have HM := n_; clear n_; clear hb; have fv221 := Aside0.mk (show FnB Try.prog w10_ (.func (.func 58) #[] #[.pointer (some ⟨gb1, 0, none⟩), .pointer (some ⟨gb2, 0, none⟩)]) (fun x_ => impl_OrFamily_1.f k x_ l0_0 l1_0) from FnB.mk Try.func58 rfl rfl (fun W_ hW_ x_ r_ hr_ => (show Calls Try.prog 58 #[.int .i64 x_, .pointer (some ⟨gb1, 0, none⟩), .pointer (some ⟨gb2, 0, none⟩)] W_ _ from impl_OrFamily_1.calls k x_ _ _ _ l0_0 _ _ _ l1_0 r_ W_ (Kd.C_below HR0_0.out (below_step HM.out.below hW_)) HC0_0.out (blk_below (HM.out.box 3 rfl) hW_) (Kd.C_below HR1_0.out (below_step HM.out.below hW_)) HC1_0.out (blk_below (HM.out.box 2 rfl) hW_) hr_)))) | ((with_reducible refine gate_callee (f := 41) rfl ?_); (with_reducible refine gate_dst (N := 13) rfl ?_); refine goesL_ (some 13) rfl rfl Try.func41 (by kernel_rfl) rfl #[.func (.func 58) #[] #[.pointer (some ⟨gb1, 0, none⟩), .pointer (some ⟨gb2, 0, none⟩)]] rfl (by (try simp only [List.map_toArray, List.map_cons, List.map_nil]); first | done | rfl | (simp only [List.length_drop, List.length_take]; rfl)) ?_; (with_reducible refine (impl_familyOf.calls k _ (fun x_ => impl_OrFamily_1.f k x_ l0_0 l1_0) t222 _ ?sd0 A3_.out).mono ?_); (case sd0 => exact fv221.out); rintro e_ w11_ ⟨vv0_, rfl, ho0_, hb⟩; refine ⟨_, rfl, ?_⟩; obtain ⟨Ao5_0, co5_0, ev_⟩ := Kd.R_slice ho0_; subst ev_; have n_ := Aside0.mk (HM.out.addR hb ho0_); clear HM; have HM := n_; clear n_; clear hb ho0_; have hcz13_0 : w11_.cell? ⟨gb3, 0, none⟩ = some (.slice none 0 0) := (blk_cell (HM.out.box 2 rfl) 0).trans rfl; have hfz13_0 := blk_frozen (HM.out.box 2 rfl) 0) | ((with_reducible refine gate_store (t := 24) (p := 4) rfl ?_); refine store_event (t := 24) (p := 4) (v := ?vow12_) (w1 := (w11_.setCell ⟨gb3, 0, none⟩ (.slice Ao5_0 t222.length co5_0))) ?hg ?ho ?hn ?hr ?_; (case ho => rfl); (case hg => rfl); (case hn => rfl); (case hr => first | (go_simp; done) | (go_simp; rfl)); intro w12_ hw; have n_ : Aside0 (MS w w12_ [.row 3 (.slice Ao5_0 t222.length co5_0) (encs (Value.int .i64) t222), .row 24 (.slice (some ⟨gb4, 0, none⟩) 2 2) [.slice A0_0 l0_0.length c0_0, .slice A1_0 l1_0.length c1_0], .box gb3 24 #[.slice Ao5_0 t222.length co5_0], .box gb2 24 #[.slice A1_0 l1_0.length c1_0], .box gb1 24 #[.slice A0_0 l0_0.length c0_0]]) := ⟨by rw [hw]; exact HM.out.setBox 2 rfl _ _ rfl⟩; clear HM hw; have HM := n_; clear n_))
    refine bodyPost_ret (results_ct rfl _ _ gb3 24 #[.slice Ao5_0 t222.length co5_0] (0, 0) _ rfl (HM.out.box 2 rfl) Try.underlying24 rfl (by kernel_rfl)) rfl ?_
    exact ⟨_, by first | rfl | (simp; done) | (simp [*]; done), HM.out.R 0 rfl, HM.out.below⟩
  · replace c2_ := Bool.eq_false_iff.mpr c2_
    subst c2_
    have H1 : (some ([], false)) = some (r1, r2) := by rw [if_neg (show ¬ (false = true) by decide)] at H; exact H
    clear H
    have H := H1
    clear H1
    simp only [Option.some.injEq, Prod.mk.injEq] at H
    obtain ⟨rfl, rfl⟩ := H
    go_enter Try.func30, Try.ntmps30
    go_wp2_with (first | ((with_reducible refine gate_dst (N := 2) rfl ?_); refine box_event ?hg (N := 2) ?hd (cs := #[.slice A0_0 l0_0.length c0_0]) (t := 24) ?hr ?_; (case hd => rfl); (case hg => rfl); (case hr => first | (go_simp; done) | (go_simp; rfl)); intro gb1 hg w14_ hbox hb; have n_ := Aside0.mk (HM.out.addBox hb hbox hg); clear HM; have HM := n_; clear n_; clear hb hbox hg) | ((with_reducible refine gate_dst (N := 3) rfl ?_); refine box_event ?hg (N := 3) ?hd (cs := #[.slice A1_0 l1_0.length c1_0]) (t := 24) ?hr ?_; (case hd => rfl); (case hg => rfl); (case hr => first | (go_simp; done) | (go_simp; rfl)); intro gb2 hg w15_ hbox hb; have n_ := Aside0.mk (HM.out.addBox hb hbox hg); clear HM; have HM := n_; clear n_; clear hb hbox hg) | ((with_reducible refine gate_dst (N := 4) rfl ?_); refine box_event ?hg (N := 4) ?hd (cs := #[.slice none 0 0]) (t := 24) ?hr ?_; (case hd => rfl); (case hg => rfl); (case hr => first | (go_simp; done) | (go_simp; rfl)); intro gb3 hg w16_ hbox hb; have n_ := Aside0.mk (HM.out.addBox hb hbox hg); clear HM; have HM := n_; clear n_; clear hb hbox hg; have hcz17_0 : w16_.cell? ⟨gb1, 0, none⟩ = some (.slice A0_0 l0_0.length c0_0) := (blk_cell (HM.out.box 2 rfl) 0).trans rfl; have hfz17_0 := blk_frozen (HM.out.box 2 rfl) 0; have hcz18_0 : w16_.cell? ⟨gb2, 0, none⟩ = some (.slice A1_0 l1_0.length c1_0) := (blk_cell (HM.out.box 1 rfl) 0).trans rfl; have hfz18_0 := blk_frozen (HM.out.box 1 rfl) 0) | ((with_reducible refine gate_dst (N := 8) rfl ?_); refine Kd.event_run (v := .slice (some ⟨w16_.heap.size, 0, none⟩) 2 2) (w1 := w16_.alloc (.cells [.slice A0_0 l0_0.length c0_0, .slice A1_0 l1_0.length c1_0].toArray 24)) rfl ?hr ?_; (case hr => first | (go_simp; done) | (go_simp; rfl)); obtain ⟨gb4, hgb_⟩ : ∃ g_ : Nat, g_ = w16_.heap.size := ⟨_, rfl⟩; rw [← hgb_]; obtain ⟨w19_, hw_⟩ : ∃ w_ : World, w_ = w16_.alloc (.cells [.slice A0_0 l0_0.length c0_0, .slice A1_0 l1_0.length c1_0].toArray 24) := ⟨_, rfl⟩; rw [← hw_]; have n_ := Aside0.mk (HM.out.addLit [.slice A0_0 l0_0.length c0_0, .slice A1_0 l1_0.length c1_0] 24 (by simp) hgb_ hw_); clear HM; have HM := n_; clear n_; clear hgb_ hw_) | ((with_reducible refine gate_callee (f := 56) rfl ?_); (with_reducible refine gate_dst (N := 9) rfl ?_); refine goesL_ (some 9) rfl rfl Try.func56 (by kernel_rfl) rfl #[.slice (some ⟨gb4, 0, none⟩) [l0_0, l1_0].length 2] rfl (by (try simp only [List.map_toArray, List.map_cons, List.map_nil]); first | done | rfl | (simp only [List.length_drop, List.length_take]; rfl)) ?_; (with_reducible refine (impl_areFamilies.calls k _ _ [l0_0, l1_0] false _ ?sd0 ?sd1 A1_.out).mono ?_); (case sd0 => exact (HM.out.rows (d := (Kd.slice 3 (Kd.int .i64))) (xs := [l0_0, l1_0]) 0 rfl rfl (Reps.one (show (Kd.slice 3 (Kd.int .i64)).K _ l0_0 [.slice A0_0 l0_0.length c0_0] from ⟨A0_0, c0_0, rfl, HC0_0.out, (Kd.C_below HR0_0.out HM.out.below)⟩) (Reps.one (show (Kd.slice 3 (Kd.int .i64)).K _ l1_0 [.slice A1_0 l1_0.length c1_0] from ⟨A1_0, c1_0, rfl, HC1_0.out, (Kd.C_below HR1_0.out HM.out.below)⟩) (Reps.none _ _))) rfl).1); (case sd1 => exact (HM.out.rows (d := (Kd.slice 3 (Kd.int .i64))) (xs := [l0_0, l1_0]) 0 rfl rfl (Reps.one (show (Kd.slice 3 (Kd.int .i64)).K _ l0_0 [.slice A0_0 l0_0.length c0_0] from ⟨A0_0, c0_0, rfl, HC0_0.out, (Kd.C_below HR0_0.out HM.out.below)⟩) (Reps.one (show (Kd.slice 3 (Kd.int .i64)).K _ l1_0 [.slice A1_0 l1_0.length c1_0] from ⟨A1_0, c1_0, rfl, HC1_0.out, (Kd.C_below HR1_0.out HM.out.below)⟩) (Reps.none _ _))) rfl).2); rintro e_ w20_ ⟨rfl, hb⟩; refine ⟨_, rfl, ?_⟩; have n_ := Aside0.mk (HM.out.step hb); clear HM; have HM := n_; clear n_; clear hb; have hcz22_0 : w20_.cell? ⟨gb3, 0, none⟩ = some (.slice none 0 0) := (blk_cell (HM.out.box 1 rfl) 0).trans rfl; have hfz22_0 := blk_frozen (HM.out.box 1 rfl) 0) | ((with_reducible refine gate_store (t := 24) (p := 4) rfl ?_); refine store_event (t := 24) (p := 4) (v := ?vow21_) (w1 := (w20_.setCell ⟨gb3, 0, none⟩ (.slice none 0 0))) ?hg ?ho ?hn ?hr ?_; (case ho => rfl); (case hg => rfl); (case hn => rfl); (case hr => first | (go_simp; done) | (go_simp; rfl)); intro w21_ hw; have n_ : Aside0 (MS w w21_ [.row 24 (.slice (some ⟨gb4, 0, none⟩) 2 2) [.slice A0_0 l0_0.length c0_0, .slice A1_0 l1_0.length c1_0], .box gb3 24 #[.slice none 0 0], .box gb2 24 #[.slice A1_0 l1_0.length c1_0], .box gb1 24 #[.slice A0_0 l0_0.length c0_0]]) := ⟨by rw [hw]; exact HM.out.setBox 1 rfl _ _ rfl⟩; clear HM hw; have HM := n_; clear n_))
    refine bodyPost_ret (results_ct rfl _ _ gb3 24 #[.slice none 0 0] (0, 0) _ rfl (HM.out.box 1 rfl) Try.underlying24 rfl (by kernel_rfl)) rfl ?_
    exact ⟨_, by first | rfl | (simp; done) | (simp [*]; done), Kd.R_nil _ _ _ _ _, HM.out.below⟩

end Go.Proofs.Ytncdgimmalifjaa.Q
