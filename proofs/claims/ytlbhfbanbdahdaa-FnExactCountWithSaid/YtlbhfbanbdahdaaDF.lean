/- slices.DeleteFunc, called with a row of the caller's own and a function value: the row is cut to the elements for which the function says no. Conditions stand in the theorem. -/
import Derived.Test.YtlbhfbanbdahdaaQI
import Derived.Lib.SliceRun
namespace Go.Proofs.YtlbhfbanbdahdaaM
open Go.RowKit Go.Proofs.YtlbhfbanbdahdaaW.PrintWords Go.Proofs.YtlbhfbanbdahdaaW.PrintLast Go.Proofs.YtlbhfbanbdahdaaW.PrintMore
theorem encs_take {α : Type} (enc : α → Value) (xs : List α) (m : Nat) : (encs enc xs).take m = encs enc (xs.take m) := by
  unfold encs; rw [List.map_take]
theorem MS.take0 {w W : World} {R : List It} {e : TypeId} {A : Option Addr} {n c : Nat} {α : Type} {enc : α → Value} {xs : List α} (h : MS w W (.row e (.slice A n c) (encs enc xs) :: R)) (m : Nat) (hm : m ≤ xs.length) : MS w W (.row e (.slice A m c) (encs enc (xs.take m)) :: R) := by
  have hr : W.ownsRow w.heap.size e 1 (.slice A n c) (encs enc xs).length (encs enc xs) := h.row 0 rfl
  have hn : n = (encs enc xs).length := by
    rcases hr.2 with ⟨h1, h2⟩ | ⟨g, cap, cur, h1, _⟩
    · cases h1; exact h2.symm
    · cases h1; rfl
  rw [← hn] at hr
  have hl : (encs enc xs).length = xs.length := encs_length ..
  have ht := own_take (m := m) hr (by omega)
  rw [Nat.mul_one, encs_take] at ht
  have hl2 : (encs enc (xs.take m)).length = m := by rw [encs_length, List.length_take]; omega
  refine h.upd 0 rfl h.below (x' := .row e (.slice A m c) (encs enc (xs.take m))) ?_ (fun k hk => .inl ?_) (fun k _ _ => rfl)
  · show W.ownsRow _ _ _ _ _ _
    rw [hl2]; exact ht
  · cases A with
    | none => exact hk
    | some a => exact hk
theorem MS.poke {w W : World} {R : List It} {e : TypeId} {g m c : Nat} {cs : List Value} (h : MS w W (.row e (.slice (some ⟨g, 0, none⟩) m c) cs :: R)) (o : Nat) (ho : m ≤ o) (v : Value) : MS w (W.setCell ⟨g, o, none⟩ v) (.row e (.slice (some ⟨g, 0, none⟩) m c) cs :: R) := by
  have hr : W.ownsRow w.heap.size e 1 (.slice (some ⟨g, 0, none⟩) m c) cs.length cs := h.row 0 rfl
  obtain ⟨hlen, h1 | ⟨g', cap, cur, h1, hb, hh, hcap, hmax, hsz, htk⟩⟩ := hr
  · cases h1.1
  · cases h1
    refine h.upd 0 rfl (h.below.setCell hb v) ?_ (fun k hk => .inl hk) (fun k _ hne => Below.heap_setCell W ⟨g, o, none⟩ v k (fun e2 => hne (by rw [e2]; rfl)))
    refine ⟨hlen, .inr ⟨g, c, cur.setIfInBounds o v, rfl, hb, blk_set hh o v, hcap, hmax, by simpa using hsz, ?_⟩⟩
    rw [Array.toList_setIfInBounds, List.take_set_of_le (by omega)]
    exact htk
theorem MS.pokes {w : World} {R : List It} {e : TypeId} {g m c : Nat} {cs : List Value} : ∀ (vs : List Value) (o : Nat) (W : World), MS w W (.row e (.slice (some ⟨g, 0, none⟩) m c) cs :: R) → m ≤ o → MS w (W.setCells g o vs) (.row e (.slice (some ⟨g, 0, none⟩) m c) cs :: R)
  | [], _, _, h, _ => h
  | v :: r, o, W, h, ho => MS.pokes r (o + 1) _ (h.poke o ho v) (by omega)
/-- V answers as g says at any world at which what R holds stands. -/
def FnM (P : Program) (w0 : World) (R : List It) (V : Value) (g : Int → Option Bool) : Prop :=
  ∃ f first cap fn, V = .func (.func f) first cap ∧ P.funcs[f]? = some fn ∧ (fn.name == "runtime.NumGoroutine") = false ∧ fn.body.isSome = true ∧
    ∀ W, MS w0 W R → ∀ x r, g x = some r → Calls P f (first ++ #[.int .i64 x] ++ cap) W fun e W' => e = .returned (.bool r) ∧ Below W.heap.size W W'
theorem FnM.toB {P : Program} {w0 W : World} {R : List It} {V : Value} {g : Int → Option Bool} (h : FnM P w0 R V g) (hM : MS w0 W R) : FnB P W V g := by
  obtain ⟨f, first, cap, fn, e, hf, hn, hb, hc⟩ := h
  exact ⟨f, first, cap, fn, e, hf, hn, hb, fun W' hW => hc W' (hM.step hW)⟩
theorem FnM.ofB {P : Program} {w0 : World} {R : List It} {V : Value} {g : Int → Option Bool} (h : FnB P w0 V g) : FnM P w0 R V g := by
  obtain ⟨f, first, cap, fn, e, hf, hn, hb, hc⟩ := h
  exact ⟨f, first, cap, fn, e, hf, hn, hb, fun W' hW => hc W' hW.below⟩
theorem FnM.mk {P : Program} {w0 : World} {R : List It} {f : FuncId} {fn : Func} {first cap : Array Value} {g : Int → Option Bool} (hf : P.funcs[f]? = some fn) (hn : (fn.name == "runtime.NumGoroutine") = false) (hb : fn.body.isSome = true)
    (hc : ∀ W, MS w0 W R → ∀ x r, g x = some r → Calls P f (first ++ #[.int .i64 x] ++ cap) W fun e W' => e = .returned (.bool r) ∧ Below W.heap.size W W') : FnM P w0 R (.func (.func f) first cap) g :=
  ⟨f, first, cap, fn, rfl, hf, hn, hb, hc⟩
end Go.Proofs.YtlbhfbanbdahdaaM
namespace Go.Proofs.Ytlbhfbanbdahdaa.Q
open Go.RowKit Go.Proofs.YtlbhfbanbdahdaaW.PrintWords Go.Proofs.YtlbhfbanbdahdaaW.PrintLast Go.Proofs.YtlbhfbanbdahdaaW.PrintMore Go.Proofs.YtlbhfbanbdahdaaM
set_option linter.unusedVariables false
set_option linter.unusedSimpArgs false
/-- what is left of a list: the elements for which g says no -/
def delF (g : Int → Option Bool) : List Int → Option (List Int)
  | [] => some []
  | x :: t => (g x).bind fun b => (delF g t).bind fun r => some (if b then r else x :: r)
def slices_DeleteFunc_int_int.f (l0 : List Int) (g1 : Int → Option Bool) : Option (List Int) := delF g1 l0
theorem delF_cons {g : Int → Option Bool} {x : Int} {t r : List Int} (h : delF g (x :: t) = some r) : ∃ b r2, g x = some b ∧ delF g t = some r2 ∧ r = if b then r2 else x :: r2 := by
  rw [delF] at h
  obtain ⟨b, hb, h⟩ := Option.bind_eq_some_iff.1 h
  obtain ⟨r2, h2, h⟩ := Option.bind_eq_some_iff.1 h
  exact ⟨b, r2, hb, h2, (Option.some.inj h).symm⟩
theorem infoDF : (Try.prog.info? 3).map (fun i => (i.zero, i.size, i.bytes)) = some (some (.int .i64 0), 1, 8) := by kernel_rfl
theorem rdn (l : List Int) (i : Nat) (h : i < l.length) : rd l (i : Int) = l[i] := by simp [rd, h]
theorem w64n (i : Nat) (h : i < 9223372036854775807) : wrap64 ((i : Int) + 1) = ((i + 1 : Nat) : Int) := by unfold wrap64; omega
theorem find_l0 (l : List Int) (g : Int → Option Bool) (hm : l.length ≤ 9223372036854775807) : ∀ (n k i : Nat) (r : List Int), i + n = l.length → n < k → delF g (l.drop i) = some r →
    (slices_IndexFunc_int_int.l0 k l g (l.length : Int) (i : Int) = some (-1) ∧ r = l.drop i) ∨
    ∃ (j : Nat) (r2 : List Int), i ≤ j ∧ j < l.length ∧ slices_IndexFunc_int_int.l0 k l g (l.length : Int) (i : Int) = some (j : Int) ∧ delF g (l.drop (j + 1)) = some r2 ∧ r = (l.drop i).take (j - i) ++ r2
  | 0, k + 1, i, r, hi, _, h => by
    have hd : l.drop i = [] := List.drop_eq_nil_of_le (by omega)
    left
    rw [hd] at h ⊢
    rw [delF] at h
    refine ⟨by rw [slices_IndexFunc_int_int.l0, if_neg (by omega)], (Option.some.inj h).symm⟩
  | n + 1, k + 1, i, r, hi, hk, h => by
    have hl : i < l.length := by omega
    have hd : l.drop i = l[i] :: l.drop (i + 1) := List.drop_eq_getElem_cons hl
    rw [hd] at h
    obtain ⟨b, r2, hb, h2, hr⟩ := delF_cons h
    rw [slices_IndexFunc_int_int.l0, if_pos (by omega), if_pos (by omega), if_pos (by omega), rdn _ _ hl, w64n _ (by omega), hb, Option.bind_some]
    cases b with
    | true =>
      right
      exact ⟨i, r2, Nat.le_refl _, hl, by simp, h2, by rw [hr]; simp⟩
    | false =>
      simp only [Bool.false_eq_true, if_false] at hr ⊢
      rcases find_l0 l g hm n k (i + 1) r2 (by omega) (by omega) h2 with ⟨h3, h4⟩ | ⟨j, r3, h3, h4, h5, h6, h7⟩
      · exact .inl ⟨h3, by rw [hr, h4, hd]⟩
      · refine .inr ⟨j, r3, by omega, h4, h5, h6, ?_⟩
        have e : j - i = (j - (i + 1)) + 1 := by omega
        rw [hr, h7, hd, e, List.take_succ_cons, List.cons_append]
theorem rd_set_take (ys : List Int) (i : Nat) (x : Int) (h : i < ys.length) : (ys.set i x).take (i + 1) = ys.take i ++ [x] := by
  rw [List.take_add_one, List.take_set_of_le (Nat.le_refl _)]
  simp [h]
set_option maxHeartbeats 8000000 in
set_option maxRecDepth 100000 in
theorem slices_DeleteFunc_int_int.calls (w0 : World) (R_ : List It) (A0 : Option Addr) (c0 : Nat) (l0 : List Int) (F1 : Value) (g1 : Int → Option Bool) (r : List Int) (w : World)
    (hM : MS w0 w (.row 3 (.slice A0 l0.length c0) (encs (Value.int .i64) l0) :: R_)) (hf1 : FnM Try.prog w0 R_ F1 g1) (h : slices_DeleteFunc_int_int.f l0 g1 = some r) :
    Calls Try.prog 93 #[.slice A0 l0.length c0, F1] w fun e w' => ∃ (A_ : Option Addr) (c_ : Nat), e = .returned (.slice A_ r.length c_) ∧ MS w0 w' (.row 3 (.slice A_ r.length c_) (encs (Value.int .i64) r) :: R_) := by
  have HF1 := Aside0.mk hf1
  have HM := Aside0.mk hM
  obtain ⟨hq_, hcap, hC⟩ := Kd.R_reads' (hM.R (h1 := fun _ => rfl) 0 rfl)
  have hlen : l0.length ≤ 9223372036854775807 := hC.2.1
  clear hf1 hM hC hq_
  have HCAP := Aside0.mk hcap
  clear hcap
  have hI := find_l0 l0 g1 hlen l0.length (l0.length + 1) 0 r (by omega) (by omega) h
  clear h
  have HLEN := Aside0.mk hlen
  clear hlen
  rcases hI with ⟨hI, hr⟩ | ⟨j, r2, _, hj, hI, hd, hr⟩
  · replace hI : slices_IndexFunc_int_int.f (l0.length + 1) l0 g1 = some (-1) := hI
    replace hr : r = l0 := hr
    subst hr
    obtain ⟨xr, hxr⟩ : ∃ x : Int, x = -1 := ⟨_, rfl⟩
    rw [← hxr] at hI
    have A1_ := Aside0.mk hI
    have ne1 : (xr == -1) = true := beq_iff_eq.2 hxr
    clear hI hxr
    go_enter Try.func93, Try.ntmps93
    go_wp2_with (first | ((with_reducible refine gate_callee (f := 88) rfl ?_); (with_reducible refine gate_dst (N := 10) rfl ?_); refine goesL_ (some 10) rfl rfl Try.func88 (by kernel_rfl) rfl #[.slice A0 r.length c0, F1] rfl (by (try simp only [List.map_toArray, List.map_cons, List.map_nil]); first | done | rfl | (simp only [List.length_drop, List.length_take]; rfl)) ?_; (with_reducible refine (slices_IndexFunc_int_int.calls (r.length + 1) _ _ r _ g1 xr _ ?sd0 ?sd1 ?sd2 A1_.out).mono ?_); (case sd0 => exact (Kd.R_reads' (HM.out.R (h1 := fun _ => rfl) 0 rfl)).2.2); (case sd1 => exact HCAP.out); (case sd2 => exact FnM.toB HF1.out HM.out.tail); rintro e_ w2_ ⟨rfl, hb⟩; refine ⟨_, rfl, ?_⟩; have n_ := Aside0.mk (HM.out.step hb); clear HM; have HM := n_; clear n_; clear hb))
    go_ret
    exact ⟨A0, c0, by first | rfl | (simp; done), HM.out⟩
  · replace hI : slices_IndexFunc_int_int.f (l0.length + 1) l0 g1 = some (j : Int) := hI
    have A1_ := Aside0.mk hI
    obtain ⟨g, cap, hv, hge, _⟩ := Kd.R_form (HM.out.R (h1 := fun _ => rfl) 0 rfl) (by omega)
    obtain ⟨rfl, rfl⟩ : A0 = some ⟨g, 0, none⟩ ∧ c0 = cap := by
      injection hv with h1 h2 h3
      exact ⟨h1, h3⟩
    clear hI hv
    replace hr : r = l0.take j ++ r2 := hr
    obtain ⟨xj, hxj⟩ : ∃ x : Int, x = (j : Int) := ⟨_, rfl⟩
    rw [← hxj] at A1_
    have ne1 : (xj == -1) = false := beq_eq_false_iff_ne.2 (by omega)
    have INV := Aside0.mk (show _ ∧ _ ∧ _ ∧ _ ∧ _ from ⟨hj, hd, hr, hxj, hge⟩)
    clear hj hd hr hxj hge
    go_enter Try.func93, Try.ntmps93
    go_wp2_with (first | ((with_reducible refine gate_callee (f := 88) rfl ?_); (with_reducible refine gate_dst (N := 10) rfl ?_); refine goesL_ (some 10) rfl rfl Try.func88 (by kernel_rfl) rfl #[.slice (some ⟨g, 0, none⟩) l0.length c0, F1] rfl (by (try simp only [List.map_toArray, List.map_cons, List.map_nil]); first | done | rfl | (simp only [List.length_drop, List.length_take]; rfl)) ?_; (with_reducible refine (slices_IndexFunc_int_int.calls (l0.length + 1) _ _ l0 _ g1 xj _ ?sd0 ?sd1 ?sd2 A1_.out).mono ?_); (case sd0 => exact (Kd.R_reads' (HM.out.R (h1 := fun _ => rfl) 0 rfl)).2.2); (case sd1 => exact HCAP.out); (case sd2 => exact FnM.toB HF1.out HM.out.tail); rintro e_ w2_ ⟨rfl, hb⟩; refine ⟨_, rfl, ?_⟩; have n_ := Aside0.mk (HM.out.step hb); clear HM; have HM := n_; clear n_; clear hb))
    go_loopg [5, 6] l0.length (fun kq v5 v6 w' => ∃ (xi xj : Int) (i j : Nat) (ys r3 : List Int), v5 = .int .i64 xi ∧ v6 = .int .i64 xj ∧ Aside0 (xi = (i : Int) ∧ xj = (j : Int) ∧ i < j ∧ j ≤ l0.length ∧ l0.length - j ≤ kq ∧ ys.length = l0.length ∧ ys.drop j = l0.drop j ∧ delF g1 (l0.drop j) = some r3 ∧ r = ys.take i ++ r3) ∧ Aside0 (MS w0 w' (.row 3 (.slice (some ⟨g, 0, none⟩) l0.length c0) (encs (Value.int .i64) ys) :: R_)))
    case atStart =>
      obtain ⟨hj, hd, hr, hxj, hge⟩ := INV.out
      exact ⟨xj, wrap64 (xj + 1), j, j + 1, l0, r2, rfl, by first | rfl | (simp; done) | (simp [*]; done), ⟨hxj, by rw [hxj]; have := HLEN.out; unfold wrap64; omega, by omega, by omega, by omega, rfl, rfl, hd, hr⟩, HM⟩
    case round =>
      clear ne1 A1_ HM
      have hge := INV.out.2.2.2.2
      have HGE := Aside0.mk hge
      clear hge INV
      obtain ⟨xi, xj, i, j, ys, r3, rfl, rfl, INV, HM⟩ := hrel
      by_cases hjl : j < l0.length
      · have hx0 : 0 ≤ xj := by have := INV.out.2.1; omega
        have hx1 : xj < (l0.length : Int) := by have := INV.out.2.1; omega
        have hi0 : 0 ≤ xi := by have := INV.out.1; omega
        have hi1 : xi < (l0.length : Int) := by have := INV.out; omega
        have d0 := decide_eq_true hx1
        obtain ⟨hx, hf⟩ := Kd.R_celln (0 : Int) (HM.out.R (h1 := fun _ => rfl) 0 rfl) xj hx0 hx1
        have e0 := eq_true hx0; have e1 := eq_true hx1; have e2 := eq_true hi0; have e3 := eq_true hi1
        have HI0 := Aside0.mk hi0
        have HI1 := Aside0.mk hi1
        clear hx0 hx1 hi0 hi1
        replace hx : wr.cell? ⟨g, xj.toNat, none⟩ = some (.int .i64 (rd ys xj)) := hx
        obtain ⟨u, hu⟩ : ∃ u, u = rd ys xj := ⟨_, rfl⟩
        rw [← hu] at hx
        obtain ⟨b, r4, hg, h4, hr3, hul⟩ : ∃ (b : Bool) (r4 : List Int), g1 u = some b ∧ delF g1 (l0.drop (j + 1)) = some r4 ∧ r3 = (if b then r4 else u :: r4) ∧ ys.drop (j + 1) = l0.drop (j + 1) := by
          obtain ⟨hxi, hxj, hij, hjm, hk, hyl, hyd, hdl, hr⟩ := INV.out
          have hd : l0.drop j = l0[j] :: l0.drop (j + 1) := List.drop_eq_getElem_cons hjl
          have hd2 : ys.drop j = ys[j] :: ys.drop (j + 1) := List.drop_eq_getElem_cons (by omega)
          rw [hd] at hdl hyd
          rw [hd2] at hyd
          have he := (List.cons.inj hyd)
          have hu2 : u = l0[j] := by rw [hu, hxj, rdn _ _ (by omega)]; exact he.1
          obtain ⟨b, r4, h1, h2, h3⟩ := delF_cons hdl
          exact ⟨b, r4, by rw [hu2]; exact h1, h2, by rw [hu2]; exact h3, he.2⟩
        have A2_ := Aside0.mk hg
        have INV2 := Aside0.mk (show _ ∧ _ ∧ _ from ⟨h4, hr3, hul⟩)
        clear hg h4 hr3 hul
        have HU := Aside0.mk hu
        clear hu
        have HJ := Aside0.mk hjl
        clear hjl
        cases b with
        | true =>
          go_wp2_with (first | ((with_reducible refine gate_dst (N := 28) rfl ?_); refine goesB (some 28) rfl rfl (V := F1) (g := g1) (x := u) (r := true) rfl rfl rfl (FnM.toB HF1.out HM.out.tail) A2_.out ?_; intro w9_ hb; have n_ := Aside0.mk (HM.out.step hb); clear HM; have HM := n_; clear n_; clear hb))
          go_roundg (l0.length - (j + 1))
          case measure => have h1 := INV.out; have h2 := HJ.out; omega
          case rel =>
            obtain ⟨hxi, hxj, hij, hjm, hk, hyl, hyd, hdl, hr⟩ := INV.out
            obtain ⟨h4, hr3, hul⟩ := INV2.out
            have h1 := HJ.out
            have h2 := HLEN.out
            exact ⟨xi, wrap64 (xj + 1), i, j + 1, ys, r4, rfl, by first | rfl | (simp; done) | (simp [*]; done), ⟨hxi, by rw [hxj]; exact w64n j (by omega), by omega, by omega, by omega, hyl, hul, h4, by rw [hr, hr3]; simp⟩, HM⟩
        | false =>
          go_wp2_with (first | ((with_reducible refine gate_dst (N := 28) rfl ?_); refine goesB (some 28) rfl rfl (V := F1) (g := g1) (x := u) (r := false) rfl rfl rfl (FnM.toB HF1.out HM.out.tail) A2_.out ?_; intro w9_ hb; have n_ := Aside0.mk (HM.out.step hb); clear HM; have HM := n_; clear n_; clear hb; obtain ⟨hx9, hf9⟩ := Kd.R_celln (0 : Int) (HM.out.R (h1 := fun _ => rfl) 0 rfl) xi HI0.out HI1.out))
          go_roundg (l0.length - (j + 1))
          case measure => have h1 := INV.out; have h2 := HJ.out; omega
          case rel =>
            obtain ⟨hxi, hxj, hij, hjm, hk, hyl, hyd, hdl, hr⟩ := INV.out
            obtain ⟨h4, hr3, hul⟩ := INV2.out
            have h1 := HJ.out
            have h2 := HLEN.out
            have h3 : xi.toNat = i := by omega
            refine ⟨wrap64 (xi + 1), wrap64 (xj + 1), i + 1, j + 1, ys.set xi.toNat u, r4, by first | rfl | (simp; done) | (simp [*]; done), by first | rfl | (simp; done) | (simp [*]; done), ⟨by rw [hxi]; exact w64n i (by omega), by rw [hxj]; exact w64n j (by omega), by omega, by omega, by omega, by simpa using hyl, ?_, h4, ?_⟩, ⟨HM.out.put 0 rfl (fun _ => rfl) xi u⟩⟩
            · rw [h3, List.drop_set_of_lt (by omega)]; exact hul
            · rw [h3, rd_set_take ys i u (by omega), hr, hr3]; simp
      · have hx1 : ¬ xj < (l0.length : Int) := by have := INV.out; omega
        have d0 := decide_eq_false hx1
        have hi0 : 0 ≤ xi := by have := INV.out.1; omega
        have hi1 : xi < (l0.length : Int) := by have := INV.out; omega
        have hi2 := Int.le_of_lt hi1
        have hil : xi.toNat < l0.length := by omega
        have hic : ¬ c0 = xi.toNat := by have := HCAP.out; omega
        have hrr : r = ys.take xi.toNat := by
          obtain ⟨hxi, hxj, hij, hjm, hk, hyl, hyd, hdl, hr⟩ := INV.out
          have h3 : xi.toNat = i := by omega
          rw [List.drop_eq_nil_of_le (by omega), delF] at hdl
          rw [h3, hr, ← Option.some.inj hdl]; simp
        have hyl : ys.length = l0.length := INV.out.2.2.2.2.2.1
        obtain ⟨ti, hti, _, hsz, _⟩ := info_parts infoDF
        have hcut1 := cut_from (P := Try.prog) 22 3 .i64 Try.underlying22 hti 1 hsz (some ⟨g, 0, none⟩) l0.length c0 xi hi0 hi2
        have hcut2 := cut_to (P := Try.prog) 22 3 .i64 Try.underlying22 hti (some ⟨g, 0, none⟩) l0.length c0 xi hi0 hi2 HCAP.out
        have eA : (some (⟨g, 0, none⟩ : Addr)).map (·.add (xi.toNat * 1)) = some ⟨g, xi.toNat, none⟩ := by by_cases h0 : xi.toNat = 0 <;> simp [Addr.add, h0]
        rw [if_neg hic, eA] at hcut1
        have hclr := fun ty => Lib.run_clear_slice (P := Try.prog) wr 22 3 ty (.int .i64 0) Try.underlying22 (fun w => by rfl) rfl rfl g xi.toNat (l0.length - xi.toNat) (c0 - xi.toNat) (by omega)
          (fun q hq => by
            have h1 := (Kd.R_celln (0 : Int) (HM.out.R (h1 := fun _ => rfl) 0 rfl) ((xi.toNat + q : Nat) : Int) (by omega) (by omega)).1
            rw [Int.toNat_natCast] at h1
            rw [h1]; rfl)
          (fun q hq => by
            have h1 := (Kd.R_celln (0 : Int) (HM.out.R (h1 := fun _ => rfl) 0 rfl) ((xi.toNat + q : Nat) : Int) (by omega) (by omega)).2
            rwa [Int.toNat_natCast] at h1)
        have hmm := MS.pokes (List.replicate (l0.length - xi.toNat) (.int .i64 0)) xi.toNat wr (HM.out.take0 xi.toNat (by omega)) (Nat.le_refl _)
        have hrl : r.length = xi.toNat := by rw [hrr, List.length_take]; omega
        rw [← hrr] at hmm
        have HMM := Aside0.mk hmm
        have HRL := Aside0.mk hrl
        clear hmm hrl hrr hyl hic hil hi2 hx1 hi0 hi1 hjl hti hsz eA
        go_wp2
        go_ret
        refine ⟨some ⟨g, 0, none⟩, c0, ?_, ?_⟩
        · rw [HRL.out]; rfl
        · rw [HRL.out]; exact HMM.out
end Go.Proofs.Ytlbhfbanbdahdaa.Q
