/- The program's coefficients of letters: what the function computes, and that it does. Conditions stand in the theorem. -/
import Derived.Test.YtblhjcdfccggfaaCA
import Derived.Test.YtblhjcdfccggfaaQA
import Derived.Test.YtblhjcdfccggfaaQN
import Derived.Test.YtblhjcdfccggfaaKL1
namespace Go.Proofs.Ytblhjcdfccggfaa.Q
open Go.RowKit Go.Proofs.YtblhjcdfccggfaaW.PrintWords Go.Proofs.YtblhjcdfccggfaaW.PrintLast Go.Proofs.YtblhjcdfccggfaaW.PrintMore Go.Proofs.YtblhjcdfccggfaaM Go.Proofs.Ytblhjcdfccggfaa.KL
set_option linter.unusedVariables false
set_option linter.unusedSimpArgs false
/-- what is added while a list's last nails are m -/
def kloop (k : Nat) (C : List (List Int)) (m : Int) (l : List Int) (len : Int) : Nat → Int → Int → Int → Option Int
  | 0, _, _, _ => none
  | q + 1, sum, kk, sg =>
    if kk ≤ len then
      if 0 ≤ wrap64 (len - kk) then
        if wrap64 (len - kk) < (l.length : Int) then
          (impl_nail.f m).bind fun t =>
            if rd l (wrap64 (len - kk)) = t then
              if m > 0 then
                if kk > 1 then some sum
                else (impl_coefficients_of.f k C (l.take (wrap64 (len - kk)).toNat)).bind fun v => kloop k C m l len q (wrap64 (sum + wrap64 (sg * v))) (wrap64 (kk + 1)) sg
              else if m < 0 then (impl_coefficients_of.f k C (l.take (wrap64 (len - kk)).toNat)).bind fun v => kloop k C m l len q (wrap64 (sum + wrap64 (wrap64 (-sg) * v))) (wrap64 (kk + 1)) (wrap64 (-sg))
              else (impl_coefficients_of.f k C (l.take (wrap64 (len - kk)).toNat)).bind fun v => kloop k C m l len q (wrap64 (sum + wrap64 (sg * v))) (wrap64 (kk + 1)) sg
            else some sum
        else none
      else none
    else some sum
def sumOf (k : Nat) (C : List (List Int)) (m : Int) (len : Int) (l : List Int) : Option Int :=
  (impl_coefficients_of.f k C l).bind fun s => kloop k C m l len k s 1 1
def rowOf (k : Nat) (C : List (List Int)) (m : Int) (len : Int) : List (List Int) → Option (List Int)
  | [] => some []
  | l :: t => (sumOf k C m len l).bind fun s => (rowOf k C m len t).bind fun r => some (s :: r)
def cstep (k : Nat) (L0 L1 L2 L3 : List (List Int)) (C : List (List Int)) (m : Int) : Option (List (List Int)) :=
  (rowOf k C m 0 L0).bind fun r0 => (rowOf k C m 1 L1).bind fun r1 => (rowOf k C m 2 L2).bind fun r2 => (rowOf k C m 3 L3).bind fun r3 => some [r0, r1, r2, r3]
def cofl (k : Nat) (L0 L1 L2 L3 : List (List Int)) : List Int → List (List Int) → Option (List (List Int))
  | [], C => some C
  | m :: t, C => (cstep k L0 L1 L2 L3 C m).bind fun C' => cofl k L0 L1 L2 L3 t C'
def impl_coefficientsOf.f (k : Nat) (l0 : List Int) : Option (List (List Int)) :=
  (impl_lists.f k 0).bind fun L0 => (impl_lists.f k 1).bind fun L1 => (impl_lists.f k 2).bind fun L2 => (impl_lists.f k 3).bind fun L3 =>
    if L0.length = 1 ∧ L1.length ≤ 1000 ∧ L2.length ≤ 1000 ∧ L3.length ≤ 1000 ∧ 10 < k then cofl k L0 L1 L2 L3 l0 [[1], List.replicate L1.length 0, List.replicate L2.length 0, List.replicate L3.length 0] else none
theorem infoCO : (Try.prog.info? 3).map (fun i => (i.zero, i.size, i.bytes)) = some (some (.int .i64 0), 1, 8) := by kernel_rfl
theorem cut_to_ {P : Program} (t e : TypeId) (kh : IntKind) (ht : P.underlying t = some (.slice e)) (hi : (P.info? e).map (fun i => (i.zero, i.size, i.bytes)) = some (some (.int .i64 0), 1, 8)) (A : Option Addr) (n c : Nat) (j : Int) (h0 : 0 ≤ j) (hm : j ≤ n) (hc : n ≤ c) :
    ∀ W : World, (Instr.slice t (.slice A n c) none (some (.int kh j)) none).run P W = .ok (.slice A j.toNat c) W := by
  obtain ⟨ti, hti, _⟩ := Option.map_eq_some_iff.1 hi
  exact cut_to t e kh ht hti A n c j h0 hm hc
/-- the lists of each length, as the walk asks for them -/
def Lists (k : Nat) (LL : List (List (List Int))) : Prop := LL.length = 4 ∧ ∀ (i : Nat), i < 4 → impl_lists.f k (i : Int) = some (LL.getD i []) ∧ (LL.getD i []).length ≤ 1000
theorem cstep_len {k : Nat} {L0 L1 L2 L3 C C' : List (List Int)} {m : Int} (h : cstep k L0 L1 L2 L3 C m = some C') : C'.length = 4 := by
  unfold cstep at h
  obtain ⟨r0, h0, h⟩ := Option.bind_eq_some_iff.1 h
  obtain ⟨r1, h1, h⟩ := Option.bind_eq_some_iff.1 h
  obtain ⟨r2, h2, h⟩ := Option.bind_eq_some_iff.1 h
  obtain ⟨r3, h3, h⟩ := Option.bind_eq_some_iff.1 h
  rw [← Option.some.inj h]; rfl
theorem cstep_row {k : Nat} {L0 L1 L2 L3 C C' : List (List Int)} {m : Int} (h : cstep k L0 L1 L2 L3 C m = some C') (i : Nat) (hi : i < 4) : ∃ r, C'[i]? = some r ∧ rowOf k C m (i : Int) ([L0, L1, L2, L3][i]) = some r := by
  unfold cstep at h
  obtain ⟨r0, h0, h⟩ := Option.bind_eq_some_iff.1 h
  obtain ⟨r1, h1, h⟩ := Option.bind_eq_some_iff.1 h
  obtain ⟨r2, h2, h⟩ := Option.bind_eq_some_iff.1 h
  obtain ⟨r3, h3, h⟩ := Option.bind_eq_some_iff.1 h
  rw [← Option.some.inj h]
  rcases i with _ | _ | _ | _ | i
  · exact ⟨r0, rfl, h0⟩
  · exact ⟨r1, rfl, h1⟩
  · exact ⟨r2, rfl, h2⟩
  · exact ⟨r3, rfl, h3⟩
  · omega
theorem cofl_len {k : Nat} {L0 L1 L2 L3 : List (List Int)} : ∀ (w : List Int) {C r : List (List Int)}, cofl k L0 L1 L2 L3 w C = some r → C.length = 4 → r.length = 4
  | [], C, r, h, hC => by rw [← Option.some.inj h]; exact hC
  | m :: t, C, r, h, _ => by
    rw [cofl] at h
    obtain ⟨C', h1, h2⟩ := Option.bind_eq_some_iff.1 h
    exact cofl_len t h2 (cstep_len h1)
set_option maxHeartbeats 8000000 in
set_option maxRecDepth 100000 in
theorem impl_coefficientsOf.calls (k : Nat) (A0 : Option Addr) (c0 : Nat) (l0 : List Int) (r : List (List Int)) (w : World) (hr0 : Kd.C (Kd.int .i64) w A0 l0.length l0) (hc0 : l0.length ≤ c0) (h : impl_coefficientsOf.f k l0 = some r) :
    Calls Try.prog 34 #[.slice A0 l0.length c0] w fun e w' => ∃ v0_ : Value, e = .returned (v0_) ∧ PtrRows 3 4 w w' v0_ r ∧ Below w.heap.size w w' := by
  have HR0 := Aside0.mk hr0
  have HC0 := Aside0.mk hc0
  clear hr0 hc0
  unfold impl_coefficientsOf.f at h
  obtain ⟨L0, g0, h1⟩ := Option.bind_eq_some_iff.1 h
  obtain ⟨L1, g1, h2⟩ := Option.bind_eq_some_iff.1 h1
  obtain ⟨L2, g2, h3⟩ := Option.bind_eq_some_iff.1 h2
  obtain ⟨L3, g3, h4⟩ := Option.bind_eq_some_iff.1 h3
  clear h h1 h2 h3
  split at h4
  case isFalse => cases h4
  case isTrue hL =>
  obtain ⟨LL, hLL⟩ : ∃ LL, LL = [L0, L1, L2, L3] := ⟨_, rfl⟩
  have HL : Aside0 (Lists k LL) := ⟨by
    refine ⟨by rw [hLL]; rfl, fun i hi => ?_⟩
    subst hLL
    rcases i with _ | _ | _ | _ | i
    · exact ⟨g0, by show L0.length ≤ 1000; omega⟩
    · exact ⟨g1, hL.2.1⟩
    · exact ⟨g2, hL.2.2.1⟩
    · exact ⟨g3, hL.2.2.2.1⟩
    · omega⟩
  have HE := Aside0.mk hLL
  have HK := Aside0.mk hL
  have HH := Aside0.mk h4
  clear hLL hL g0 g1 g2 g3 h4
  have hu63 := Try.underlying63
  have HM := Aside0.mk (MS.start w)
  go_enter Try.func34, Try.ntmps34
  go_wp2_with (first
    | ((with_reducible refine gate_dst (N := 14) rfl ?_); refine build_zero ?hg (N := 14) ?hd (cs := #[.slice none 0 0, .slice none 0 0, .slice none 0 0, .slice none 0 0]) ?hr ?_; (case hd => rfl); (case hg => rfl); (case hr => first | (go_simp; done) | (go_simp; rfl)))
    | ((with_reducible refine gate_dst (N := 15) rfl ?_); refine box_event ?hg (N := 15) ?hd (cs := #[.slice none 0 0, .slice none 0 0, .slice none 0 0, .slice none 0 0]) (t := 63) ?hr ?_; (case hd => rfl); (case hg => rfl); (case hr => first | (go_simp; done) | (go_simp; rfl)); intro gc hg w1 hbox hb; have n_ := Aside0.mk (show MS w w1 (.box gc 63 (cellsOf 4 []) :: its 3 []) from HM.out.addBox hb hbox hg); clear HM; have HM := n_; clear n_; clear hb hbox hg))
  go_loopg [16] 4 (fun kq v16 w' => ∃ (x : Int) (rows : List (Value × List Int)), v16 = .int .i64 x ∧ Aside0 (x = (rows.length : Int) ∧ rows.length ≤ 4 ∧ 4 - rows.length ≤ kq ∧ rows.map Prod.snd = (LL.take rows.length).map (fun ls => List.replicate ls.length 0)) ∧ Aside0 (MS w w' (.box gc 63 (cellsOf 4 rows) :: its 3 rows)))
  case atStart => exact ⟨0, [], by first | rfl | (simp; done), ⟨rfl, by simp, by simp, by simp⟩, HM⟩
  case round =>
    clear HM
    obtain ⟨x, rows, rfl, HI, HM⟩ := hrel
    by_cases hx : x < 4
    · have d0 := decide_eq_true hx
      have hi : rows.length < 4 := by have := HI.out; omega
      have hxi : x = (rows.length : Int) := HI.out.1
      have hx0 := eq_true (show 0 ≤ x by omega)
      have HX := Aside0.mk hx
      have hx := eq_true hx
      have hxn : x.toNat = rows.length := by omega
      obtain ⟨ls, hls⟩ : ∃ ls, ls = LL.getD rows.length [] := ⟨_, rfl⟩
      have hlc := (HL.out.2 rows.length hi).1
      have hln := (HL.out.2 rows.length hi).2
      rw [← hls, ← hxi] at hlc
      rw [← hls] at hln
      have HLC := Aside0.mk hlc
      have HLN := Aside0.mk hln
      have HLS := Aside0.mk hls
      have HI2 := Aside0.mk hi
      have HXI := Aside0.mk hxi
      clear hlc hln hls hi hxi
      go_wp2
      have n_ := Aside0.mk (HM.out.step (below_drew1 (Below.refl wr.heap.size wr)))
      clear HM
      have HM := n_
      clear n_
      refine start_ (n := 9) (S := fun w' => True) (ds := [8]) #[false, false, false, false, false, false, false, false, false] (by kernel_rfl) rfl rfl trivial (fun hHeld => ?_)
      generalize wr.drew = w2 at HM hHeld ⊢
      refine pure_ (i := 0) (N := some 19) (v := ?_) (a' := ?_) #[true, false, false, false, false, false, false, false, false] rfl rfl (by kernel_rfl) (fun _ _ _ h => h) (Or.inl ⟨by rfl, ?_⟩) ?_ ?_
      rotate_left
      · intro w'
        go_simp
        first | with_reducible rfl | rfl
      rotate_left
      · simp only [Act.put, List.setIfInBounds_toArray, List.set_cons_zero, List.set_cons_succ, i64_w, i32_w]
        rfl
      refine pure_ (i := 1) (N := some 20) (v := ?_) (a' := ?_) #[true, true, false, false, false, false, false, false, false] rfl rfl (by kernel_rfl) (fun _ _ _ h => h) (Or.inl ⟨by rfl, ?_⟩) ?_ ?_
      rotate_left
      · intro w'
        go_simp
        first | with_reducible rfl | rfl
      rotate_left
      · simp only [Act.put, List.setIfInBounds_toArray, List.set_cons_zero, List.set_cons_succ, i64_w, i32_w]
        rfl
      refine pure_ (i := 2) (N := some 21) (v := ?_) (a' := ?_) #[true, true, true, false, false, false, false, false, false] rfl rfl (by kernel_rfl) (fun _ _ _ h => h) (Or.inl ⟨by rfl, ?_⟩) ?_ ?_
      rotate_left
      · intro w'
        go_simp
        first | with_reducible rfl | rfl
      rotate_left
      · simp only [Act.put, List.setIfInBounds_toArray, List.set_cons_zero, List.set_cons_succ, i64_w, i32_w]
        rfl
      refine pure_ (i := 6) (N := some 25) (v := ?_) (a' := ?_) #[true, true, true, false, false, false, true, false, false] rfl rfl (by kernel_rfl) (fun _ _ _ h => h) (Or.inl ⟨by rfl, ?_⟩) ?_ ?_
      rotate_left
      · intro w'
        go_simp
        first | with_reducible rfl | rfl
      rotate_left
      · simp only [Act.put, List.setIfInBounds_toArray, List.set_cons_zero, List.set_cons_succ, i64_w, i32_w]
        rfl
      refine one_ (i := 3) (N := some 22) #[true, true, true, true, false, false, true, false, false] rfl rfl (by kernel_rfl) (by decide) (fun K hK => ?_)
      refine goes_ Try.func52 (by kernel_rfl) rfl #[.int .i64 x] (by rfl) rfl rfl (by (try simp only [List.map_toArray, List.map_cons, List.map_nil]); first | done | rfl) ?_
      with_reducible refine (impl_lists.calls k x ls _ HLC.out).mono ?_
      rintro e_ w3 ⟨vv0_, rfl, ho0_, hb⟩
      refine ⟨_, rfl, ?_⟩
      obtain ⟨Al, cl, ev_⟩ := Kd.N_slice ho0_
      subst ev_
      have n_ := Aside0.mk (HM.out.step hb)
      clear HM
      have HM := n_
      clear n_
      clear hb ho0_
      refine hK.out _ _ trivial (fun hHeld => ?_)
      clear hK K
      refine norm_ (a' := ?_) ?_ ?_
      rotate_left
      · show Act.put _ (some 22) _ = _
        simp only [Act.put, List.setIfInBounds_toArray, List.set_cons_zero, List.set_cons_succ, i64_w, i32_w]
        rfl
      refine pure_ (i := 4) (N := some 23) (v := ?_) (a' := ?_) #[true, true, true, true, true, false, true, false, false] rfl rfl (by kernel_rfl) (fun _ _ _ h => h) (Or.inl ⟨by rfl, ?_⟩) ?_ ?_
      rotate_left
      · intro w'
        go_simp
        first | with_reducible rfl | rfl
      rotate_left
      · simp only [Act.put, List.setIfInBounds_toArray, List.set_cons_zero, List.set_cons_succ, i64_w, i32_w]
        rfl
      refine one_ (i := 5) (N := some 24) #[true, true, true, true, true, true, true, false, false] rfl rfl (by kernel_rfl) (by decide) (fun K hK => ?_)
      refine value_ (w1 := w3.alloc (.cells (madeCells #[.int .i64 0] ls.length) 3)) (v := .slice (some ⟨w3.heap.size, 0, none⟩) ls.length ls.length) (by rfl) rfl ?_ ?_
      · have hm_ := print_make_of (P := Try.prog) 22 3 (.int .i64 0) 8 Try.underlying22 infoCO rfl (by omega) ls.length (by have := HLN.out; omega) w3
        first | (go_simp; done) | (go_simp; rfl)
      obtain ⟨gb, hgb_⟩ : ∃ g_ : Nat, g_ = w3.heap.size := ⟨_, rfl⟩
      rw [← hgb_]
      have hrow := own_made_of (enc := Value.int .i64) (d := 0) w3 w.heap.size 3 ls.length HM.out.size (by have := HLN.out; omega)
      obtain ⟨w4, hw_⟩ : ∃ w_ : World, w_ = w3.alloc (.cells (madeCells #[.int .i64 0] ls.length) 3) := ⟨_, rfl⟩
      rw [← hw_]
      rw [← hw_, ← hgb_] at hrow
      have hb : Below w3.heap.size w3 w4 := by rw [hw_]; exact below_alloc (Below.refl _ _) _
      have n_ : Aside0 (MS w w4 (.row 3 (.slice (some ⟨gb, 0, none⟩) ls.length ls.length) (encs (Value.int .i64) (List.replicate ls.length 0)) :: .box gc 63 (cellsOf 4 rows) :: its 3 rows)) := ⟨HM.out.add hb _ (by show World.ownsRow _ _ _ _ _ _ _; rw [encs_length, List.length_replicate]; exact hrow) (fun k_ hk_ => by (have h_ : gb = k_ := (by simpa [It.has, Value.ownBlock] using hk_)); omega)⟩
      clear HM hb hrow hw_
      have HM := n_
      clear n_
      refine hK.out _ _ trivial (fun hHeld => ?_)
      clear hK K
      refine norm_ (a' := ?_) ?_ ?_
      rotate_left
      · show Act.put _ (some 24) _ = _
        simp only [Act.put, List.setIfInBounds_toArray, List.set_cons_zero, List.set_cons_succ, i64_w, i32_w]
        rfl
      refine pure_ (i := 7) (N := some 26) (v := ?_) (a' := ?_) #[true, true, true, true, true, true, true, true, false] rfl rfl (by kernel_rfl) (fun _ _ _ h => h) (Or.inl ⟨by rfl, ?_⟩) ?_ ?_
      rotate_left
      · intro w'
        go_simp
        first | with_reducible rfl | rfl
      rotate_left
      · simp only [Act.put, List.setIfInBounds_toArray, List.set_cons_zero, List.set_cons_succ, i64_w, i32_w]
        rfl
      have hcell := (blk_cell (HM.out.box 1 rfl) rows.length).trans (cellsOf_nil (by have := HI2.out; exact this))
      have hfro := blk_frozen (HM.out.box 1 rfl) rows.length
      refine last_ (i := 8) (N := none) #[true, true, true, true, true, true, true, true, true] rfl rfl (by kernel_rfl) (by decide) (fun K hK => ?_)
      refine skip_ (w1 := w4.setCell ⟨gc, rows.length, none⟩ (.slice (some ⟨gb, 0, none⟩) ls.length ls.length)) (by rfl) rfl ?_ ?_
      · first | (go_simp; done) | (go_simp; rfl)
      generalize hw : w4.setCell ⟨gc, rows.length, none⟩ (.slice (some ⟨gb, 0, none⟩) ls.length ls.length) = w5
      have n_ : Aside0 (MS w w5 (.box gc 63 (cellsOf 4 (rows ++ [(.slice (some ⟨gb, 0, none⟩) ls.length ls.length, List.replicate ls.length 0)])) :: its 3 (rows ++ [(.slice (some ⟨gb, 0, none⟩) ls.length ls.length, List.replicate ls.length 0)]))) := ⟨by rw [← hw, its_snoc]; exact (HM.out.setBox 1 rfl rows.length _ (cellsOf_set HI2.out _ (List.replicate ls.length 0))).rot⟩
      clear HM hw hcell hfro
      have HM := n_
      clear n_
      refine hK.out _ _ ?_
      clear hK K
      refine done_ (by kernel_rfl) ?_
      go_wp2
      go_roundg (4 - (rows.length + 1))
      case measure => have h1 := HI.out; have h2 := HI2.out; omega
      case rel =>
        refine ⟨wrap64 (x + 1), _, by first | rfl | (simp; done) | (simp [*]; done), ⟨?_, ?_, ?_, ?_⟩, HM⟩
        · have h1 := HXI.out; have h2 := HI2.out; rw [List.length_append]; simp only [List.length_cons, List.length_nil]; unfold wrap64; omega
        · have h2 := HI2.out; rw [List.length_append]; simp only [List.length_cons, List.length_nil]; omega
        · rw [List.length_append]; simp only [List.length_cons, List.length_nil]; omega
        · have h3 := HI.out.2.2.2
          have h4 : LL.length = 4 := HL.out.1
          have h5 := HI2.out
          rw [List.map_append, h3, List.length_append]
          simp only [List.length_cons, List.length_nil, List.map_cons, List.map_nil]
          rw [List.take_add_one, List.map_append]
          congr 1
          rw [HLS.out, List.getD_eq_getElem?_getD, List.getElem?_eq_getElem (by omega)]
          simp
    · have d0 := decide_eq_false hx
      have hr4 : rows.length = 4 := by have := HI.out; omega
      have hmap := HI.out.2.2.2
      have hl4 : LL.length = 4 := HL.out.1
      rw [hr4, List.take_of_length_le (by omega), HE.out] at hmap
      clear HI hx
      obtain ⟨⟨v0, z0⟩, rest, rfl⟩ : ∃ p rest, rows = p :: rest := by
        cases rows with
        | nil => simp at hr4
        | cons p rest => exact ⟨p, rest, rfl⟩
      simp only [List.map_cons, List.map_nil, List.cons.injEq] at hmap
      obtain ⟨hz0, hrest⟩ := hmap
      have hz : z0 = [0] := by rw [hz0, HK.out.1]; rfl
      subst hz
      have hrow0 : (Kd.int .i64).R 3 wr w.heap.size (fun _ => True) v0 [0] := HM.out.R (h1 := fun _ => rfl) 1 rfl
      obtain ⟨g0, cap, hv0, hge, _⟩ := Kd.R_form hrow0 (by simp)
      replace hv0 : v0 = .slice (some ⟨g0, 0, none⟩) 1 cap := hv0
      subst hv0
      have hcell := (blk_cell (HM.out.box 0 rfl) 0).trans (cellsOf_get (n := 4) (rows := (.slice (some ⟨g0, 0, none⟩) 1 cap, [0]) :: rest) (j := 0) (by simp))
      have hfro := blk_frozen (HM.out.box 0 rfl) 0
      obtain ⟨hc0, hf0⟩ := Kd.R_celln (0 : Int) hrow0 0 (by omega) (by simp)
      have HR4 := Aside0.mk hr4
      have HRS := Aside0.mk hrest
      replace hc0 : wr.cell? ⟨g0, 0, none⟩ = some (.int .i64 (rd [0] 0)) := hc0
      replace hf0 : wr.frozen? ⟨g0, 0, none⟩ = false := hf0
      replace hcell : wr.cell? ⟨gc, 0, none⟩ = some (.slice (some ⟨g0, 0, none⟩) 1 cap) := hcell
      clear hr4 hrest hz0 hge hl4 hrow0
      go_wp2
      generalize hw : wr.setCell ⟨g0, 0, none⟩ (.int .i64 1) = w6
      have n_ : Aside0 (MS w w6 (.box gc 63 (cellsOf 4 ((.slice (some ⟨g0, 0, none⟩) 1 cap, [1]) :: rest)) :: (its 3 ((.slice (some ⟨g0, 0, none⟩) 1 cap, [1]) :: rest) ++ []))) := ⟨by rw [← hw, List.append_nil]; exact HM.out.put 1 rfl (fun _ => rfl) 0 1⟩
      obtain ⟨own, hF, hM⟩ := n_.out.toF (by have := HR4.out; simpa using this) (by omega)
      have HF := Aside0.mk hF
      clear HM n_
      have HM := Aside0.mk hM
      clear hM hF hw hcell hfro hc0 hf0
      go_loopg [3, 35] l0.length (fun kq v3 v35 w' => ∃ (x : Int) (i gq : Nat) (own : Nat → Prop) (W1 : World) (C : List (List Int)), v3 = .pointer (some ⟨gq, 0, none⟩) ∧ v35 = .int .i64 x ∧ Aside0 (x = (i : Int) ∧ i ≤ l0.length ∧ l0.length - i ≤ kq ∧ C.length = 4 ∧ cofl k L0 L1 L2 L3 (l0.drop i) C = some r) ∧ Aside0 (Kd.F (Kd.slice 3 (Kd.int .i64)) W1 own (some ⟨gq, 0, none⟩) 4 C) ∧ Aside0 (MS w w' [.any own (Agree own W1)]))
      case atStart =>
        refine ⟨0, 0, gc, own, w6, _, by first | rfl | (simp; done), by first | rfl | (simp; done), ⟨rfl, by omega, by omega, ?_, ?_⟩, HF, HM⟩
        · have := HR4.out; simpa using this
        · have h1 := HRS.out
          rw [List.map_cons, h1]
          exact HH.out
      case round =>
        clear HM HF own
        obtain ⟨x, i, gq, own, W1, C, rfl, rfl, HI, HF, HM⟩ := hrel
        have hR0 : (x < (l0.length : Int)) ↔ i < l0.length := by have := HI.out.1; omega
        by_cases hx : x < (l0.length : Int)
        · have d0 := decide_eq_true hx
          have hi := hR0.1 hx
          clear hR0
          have hx0 : 0 ≤ x := by have := HI.out.1; omega
          obtain ⟨ad, eA, hxc⟩ := Kd.at_int HR0.out x hx0 hx
          cases eA
          replace hxc := (HM.out.below.cell (World.block_lt_of_cell? w _ hxc)).trans hxc
          have HX := Aside0.mk hx
          replace hx0 := eq_true hx0
          replace hx := eq_true hx
          obtain ⟨m, hm⟩ : ∃ m, m = rd l0 x := ⟨_, rfl⟩
          rw [← hm] at hxc
          obtain ⟨C', hcs, hco⟩ : ∃ C', cstep k L0 L1 L2 L3 C m = some C' ∧ cofl k L0 L1 L2 L3 (l0.drop (i + 1)) C' = some r := by
            have h1 := HI.out.2.2.2.2
            rw [List.drop_eq_getElem_cons hi, cofl] at h1
            obtain ⟨C', h2, h3⟩ := Option.bind_eq_some_iff.1 h1
            have h4 : m = l0[i] := by rw [hm, HI.out.1]; simp [rd, hi]
            exact ⟨C', by rw [h4]; exact h2, h3⟩
          have HCS := Aside0.mk hcs
          have HCO := Aside0.mk hco
          have HI1 := Aside0.mk hi
          have HMm := Aside0.mk hm
          clear hcs hco hi hm
          go_wp2_with (first
            | ((with_reducible refine gate_dst (N := 39) rfl ?_); refine build_zero ?hg (N := 39) ?hd (cs := #[.slice none 0 0, .slice none 0 0, .slice none 0 0, .slice none 0 0]) ?hr ?_; (case hd => rfl); (case hg => rfl); (case hr => first | (go_simp; done) | (go_simp; rfl)))
            | ((with_reducible refine gate_dst (N := 40) rfl ?_); refine box_event ?hg (N := 40) ?hd (cs := #[.slice none 0 0, .slice none 0 0, .slice none 0 0, .slice none 0 0]) (t := 63) ?hr ?_; (case hd => rfl); (case hg => rfl); (case hr => first | (go_simp; done) | (go_simp; rfl)); intro gn hg w11 hbox hb; have n_ := Aside0.mk (show MS w w11 (.box gn 63 (cellsOf 4 []) :: (its 3 [] ++ [.any own (Agree own W1)])) from HM.out.addBox hb hbox hg); clear HM; have HM := n_; clear n_; clear hb hbox hg))
          clear hxc d0 hx hx0
          go_loopg [41] 4 (fun kq v41 w' => ∃ (x2 : Int) (rows : List (Value × List Int)), v41 = .int .i64 x2 ∧ Aside0 (x2 = (rows.length : Int) ∧ rows.length ≤ 4 ∧ 4 - rows.length ≤ kq ∧ rows.map Prod.snd = C'.take rows.length) ∧ Aside0 (MS w w' (.box gn 63 (cellsOf 4 rows) :: (its 3 rows ++ [.any own (Agree own W1)]))))
          case atStart => exact ⟨0, [], by first | rfl | (simp; done), ⟨rfl, by simp, by simp, by simp⟩, HM⟩
          case round =>
            clear HM
            obtain ⟨x2, rows, rfl, HI2, HM⟩ := hrel
            by_cases hx : x2 < 4
            · have d0 := decide_eq_true hx
              have hi : rows.length < 4 := by have := HI2.out; omega
              have hxi : x2 = (rows.length : Int) := HI2.out.1
              have hx0 := eq_true (show 0 ≤ x2 by omega)
              have hxn : x2.toNat = rows.length := by omega
              have hx := eq_true hx
              obtain ⟨ls, hls⟩ : ∃ ls, ls = LL.getD rows.length [] := ⟨_, rfl⟩
              have hlc := (HL.out.2 rows.length hi).1
              have hln := (HL.out.2 rows.length hi).2
              obtain ⟨R, hR1, hR2⟩ := cstep_row HCS.out rows.length hi
              have hls2 : ls = [L0, L1, L2, L3][rows.length] := by rw [hls, HE.out]; simp [hi]
              rw [← hls2, ← hxi] at hR2
              rw [← hls, ← hxi] at hlc
              rw [← hls] at hln
              have HLC := Aside0.mk hlc
              have HLN := Aside0.mk hln
              have HR1 := Aside0.mk hR1
              have HRW := Aside0.mk hR2
              have HR2 := Aside0.mk hi
              have HXI := Aside0.mk hxi
              clear hlc hln hls hls2 hR1 hR2 hi hxi
              go_wp2_with (first | ((with_reducible refine gate_callee (f := 52) rfl ?_); (with_reducible refine gate_dst (N := 45) rfl ?_); refine goesL_ (some 45) rfl rfl Try.func52 (by kernel_rfl) rfl #[.int .i64 x2] rfl (by (try simp only [List.map_toArray, List.map_cons, List.map_nil]); first | done | rfl) ?_; (with_reducible refine (impl_lists.calls k x2 ls _ HLC.out).mono ?_); rintro e_ wl ⟨vv0_, rfl, ho0_, hb⟩; refine ⟨_, rfl, ?_⟩; obtain ⟨Al, cl, ev_, hl_, hF_⟩ := RoS.ofN (id ho0_); subst ev_; obtain ⟨ol, hF2_, hM_⟩ := HM.out.addRo hb hF_; have HFl := Aside0.mk hF2_; have n_ := Aside0.mk (hM_.addNil 3); clear HM hF_ hF2_ hl_ hM_; have HM := n_; clear n_; clear hb ho0_))
              replace HM : Aside0 (MS w wl (.row 3 (.slice none 0 0) (encs (Value.int .i64) ([] : List Int)) :: .any ol (Agree ol wl) :: .box gn 63 ((cellsOf 4 rows).setIfInBounds rows.length (.slice none 0 0)) :: (its 3 rows ++ [.any own (Agree own W1)]))) := ⟨by rw [cellsOf_same HR2.out]; exact HM.out⟩
              clear d0
              go_loopg [47] ls.length (fun kq v47 w' => ∃ (x3 : Int) (j : Nat) (Av : Option Addr) (cv : Nat) (acc : List Int), v47 = .int .i64 x3 ∧ Aside0 (x3 = (j : Int) ∧ j ≤ ls.length ∧ ls.length - j ≤ kq ∧ acc.length = j ∧ ∃ rest, rowOf k C m x2 (ls.drop j) = some rest ∧ R = acc ++ rest) ∧ Aside0 (MS w w' (.row 3 (.slice Av acc.length cv) (encs (Value.int .i64) acc) :: .any ol (Agree ol wl) :: .box gn 63 ((cellsOf 4 rows).setIfInBounds rows.length (.slice Av acc.length cv)) :: (its 3 rows ++ [.any own (Agree own W1)]))))
              case atStart => exact ⟨0, 0, none, 0, [], by first | rfl | (simp; done), ⟨rfl, by omega, by omega, rfl, R, HRW.out, rfl⟩, HM⟩
              case round =>
                clear HM
                obtain ⟨x3, j, Av, cv, acc, rfl, HD, HM⟩ := hrel
                by_cases hx3 : x3 < (ls.length : Int)
                · have d3 := decide_eq_true hx3
                  have hj : j < ls.length := by have := HD.out.1; omega
                  have h03 : 0 ≤ x3 := by have := HD.out.1; omega
                  obtain ⟨ad3, Ae, ce, e3, hx3c, hle, hFe, hy3⟩ := held_elem HFl.out (HM.out.any 1 rfl) x3 h03 hx3
                  cases e3
                  clear hy3
                  have HE2 := Aside0.mk hFe
                  have HLE := Aside0.mk hle
                  clear hFe hle
                  have HX3 := Aside0.mk HD.out.1
                  have HAC := Aside0.mk (show (acc.length + 1) * 8 ≤ 140737488355328 by have h1 := HD.out; have h2 := HLN.out; omega)
                  replace h03 := eq_true h03
                  replace hx3 := eq_true hx3
                  obtain ⟨l, hl⟩ : ∃ l, l = rdOf [] ls x3 := ⟨_, rfl⟩
                  rw [← hl] at hx3c HE2 HLE
                  obtain ⟨s0, s, rest2, hs0, hs, hrest, hRR⟩ : ∃ s0 s rest2, impl_coefficients_of.f k C l = some s0 ∧ kloop k C m l x2 k s0 1 1 = some s ∧ rowOf k C m x2 (ls.drop (j + 1)) = some rest2 ∧ R = acc ++ s :: rest2 := by
                    obtain ⟨rest, h1, h2⟩ := HD.out.2.2.2.2
                    rw [List.drop_eq_getElem_cons hj, rowOf] at h1
                    obtain ⟨s, h3, h4⟩ := Option.bind_eq_some_iff.1 h1
                    obtain ⟨rest2, h5, h6⟩ := Option.bind_eq_some_iff.1 h4
                    unfold sumOf at h3
                    obtain ⟨s0, h7, h8⟩ := Option.bind_eq_some_iff.1 h3
                    have h9 : l = ls[j] := by rw [hl, HD.out.1]; simp [rdOf, hj]
                    rw [← h9] at h7 h8
                    exact ⟨s0, s, rest2, h7, h8, h5, by rw [h2, ← Option.some.inj h6]⟩
                  have HS0 := Aside0.mk hs0
                  have HS := Aside0.mk hs
                  have HT := Aside0.mk (And.intro hrest hRR)
                  have HJ := Aside0.mk hj
                  clear hs0 hs hrest hRR hj hl
                  go_wp2_with (first | ((with_reducible refine gate_callee (f := 42) rfl ?_); (with_reducible refine gate_dst (N := 53) rfl ?_); refine goesL_ (some 53) rfl rfl Try.func42 (by kernel_rfl) rfl #[.pointer (some ⟨gq, 0, none⟩), .slice Ae l.length ce] rfl (by (try simp only [List.map_toArray, List.map_cons, List.map_nil]); first | done | rfl) ?_; (with_reducible refine (impl_coefficients_of.calls k gq C Ae ce l s0 _ (HM.out.heldC (3 + rows.length) (its_last rfl) HF.out) HI.out.2.2.2.1 (HM.out.heldC 1 rfl HE2.out) HLE.out HS0.out).mono ?_); rintro e_ w25 ⟨rfl, hd_⟩; refine ⟨_, rfl, ?_⟩; have hb := hd_.below; have n_ := Aside0.mk (HM.out.step hb); clear HM hb hd_; have HM := n_; clear n_))
                  clear d3 hx3c h03 hx3
                  go_loopg [11, 12, 13] k (fun kq v11 v12 v13 w' => ∃ (sum kk sg : Int), v11 = .int .i64 sum ∧ v12 = .int .i64 kk ∧ v13 = .int .i64 sg ∧ Aside0 (kloop k C m l x2 kq sum kk sg = some s) ∧ Aside0 (kq ≤ k) ∧ Aside0 (MS w w' (.row 3 (.slice Av acc.length cv) (encs (Value.int .i64) acc) :: .any ol (Agree ol wl) :: .box gn 63 ((cellsOf 4 rows).setIfInBounds rows.length (.slice Av acc.length cv)) :: (its 3 rows ++ [.any own (Agree own W1)]))))
                  case atStart => exact ⟨s0, 1, 1, by first | rfl | (simp; done), by first | rfl | (simp; done), by first | rfl | (simp; done), HS, ⟨Nat.le_refl _⟩, HM⟩
                  case round =>
                    clear HM HS HS0
                    obtain ⟨sum, kk, sg, rfl, rfl, rfl, HA, HKq, HM⟩ := hrel
                    cases gk with
                    | zero => exact absurd HA.out (by simp [kloop])
                    | succ q =>
                      have H := HA.out
                      clear HA
                      simp only [kloop] at H
                      by_cases ca : kk ≤ x2
                      · rw [if_pos ca] at H
                        have da := decide_eq_true ca
                        clear ca
                        obtain ⟨ji, hji⟩ : ∃ j_ : Int, wrap64 (x2 - kk) = j_ := ⟨_, rfl⟩
                        simp only [hji] at H
                        have hjiw : (IntKind.i64.wrap (x2 - kk)) = ji := (i64_w _).trans hji
                        by_cases cb : 0 ≤ ji
                        · rw [if_pos cb] at H
                          by_cases cc : ji < (l.length : Int)
                          · rw [if_pos cc] at H
                            obtain ⟨t, ht, H1⟩ := Option.bind_eq_some_iff.1 H
                            have HT2 := Aside0.mk ht
                            clear H ht
                            obtain ⟨ade, ee, hxe⟩ := Kd.at_int (HM.out.heldC 1 rfl HE2.out) ji cb cc
                            cases ee
                            have hcut := cut_to_ (P := Try.prog) 22 3 .i64 Try.underlying22 infoCO (some ade) l.length ce ji cb (by omega) HLE.out
                            have HCALL : Aside0 (∀ (v : Int) (W : World), MS w W (.row 3 (.slice Av acc.length cv) (encs (Value.int .i64) acc) :: .any ol (Agree ol wl) :: .box gn 63 ((cellsOf 4 rows).setIfInBounds rows.length (.slice Av acc.length cv)) :: (its 3 rows ++ [.any own (Agree own W1)])) → impl_coefficients_of.f k C (l.take ji.toNat) = some v → Calls Try.prog 42 #[.pointer (some ⟨gq, 0, none⟩), .slice (some ade) ji.toNat ce] W fun e w' => e = .returned (.int .i64 v) ∧ Drawn0 W w') := ⟨by
                              intro v W hM hv
                              have hlt : (l.take ji.toNat).length = ji.toNat := by rw [List.length_take]; omega
                              have h := impl_coefficients_of.calls k gq C (some ade) ce (l.take ji.toNat) v W (hM.heldC (3 + rows.length) (its_last rfl) HF.out) HI.out.2.2.2.1 (Kd.C_take (hM.heldC 1 rfl HE2.out) (by omega)) (by have := HLE.out; omega) hv
                              rw [hlt] at h
                              exact h⟩
                            have db := eq_true cb
                            have dc := eq_true cc
                            clear cb cc
                            have H' := Aside0.mk H1
                            clear H1
                            go_wp2
                            go_quiet ((go_at_call 53; refine calls_quiet (v := .int .i64 t) ?_; exact (impl_nail.calls m t _ HT2.out)))
                            generalize hw : World.drewN _ _ = w18
                            have n_ := Aside0.mk (HM.out.step (show Below _ _ w18 from hw ▸ pw_below_drewN (Below.refl _ _) _))
                            clear HM hw
                            have HM := n_
                            clear n_
                            have H := H'.out
                            clear H' hxe
                            by_cases cd : rd l ji = t
                            · rw [if_pos cd] at H
                              have dd : (rd l ji == t) = true := beq_iff_eq.mpr cd
                              clear cd
                              by_cases cm : m > 0
                              · rw [if_pos cm] at H
                                have dm := decide_eq_true cm
                                have dm2 : decide (m < 0) = false := decide_eq_false (by omega)
                                clear cm
                                by_cases ck : kk > 1
                                · rw [if_pos ck] at H
                                  have dk := decide_eq_true ck
                                  clear ck
                                  obtain rfl : s = sum := (Option.some.inj H).symm
                                  clear H
                                  clear HCALL hcut
                                  go_wp2
                                  have n_ := Aside0.mk (HM.out.step (below_drew1 (Below.refl w18.heap.size w18)))
                                  clear HM
                                  have HM := n_
                                  clear n_
                                  refine start_ (n := 13) (S := fun w' => w'.cell? ⟨gn, rows.length, none⟩ = some (.slice Av acc.length cv)) (ds := [12]) #[false, false, false, false, false, false, false, false, false, false, false, false, false] (by kernel_rfl) rfl rfl ((blk_cell (HM.out.box 2 rfl) rows.length).trans (cellsOf_at HR2.out _)) (fun hHeld => ?_)
                                  generalize w18.drew = w21 at HM hHeld ⊢
                                  refine pure_ (i := 0) (N := some 91) (v := ?_) (a' := ?_) #[true, false, false, false, false, false, false, false, false, false, false, false, false] rfl rfl (by kernel_rfl) (fun _ _ _ h => h) (Or.inl ⟨by rfl, ?_⟩) ?_ ?_
                                  rotate_left
                                  · intro w'
                                    go_simp
                                    first | with_reducible rfl | rfl
                                  rotate_left
                                  · simp only [Act.put, List.setIfInBounds_toArray, List.set_cons_zero, List.set_cons_succ, i64_w, i32_w]
                                    rfl
                                  refine pure_ (i := 1) (N := some 92) (v := ?_) (a' := ?_) #[true, true, false, false, false, false, false, false, false, false, false, false, false] rfl rfl (by kernel_rfl) (fun _ _ _ h => h) (Or.inl ⟨by rfl, ?_⟩) ?_ ?_
                                  rotate_left
                                  · intro w'
                                    go_simp
                                    first | with_reducible rfl | rfl
                                  rotate_left
                                  · simp only [Act.put, List.setIfInBounds_toArray, List.set_cons_zero, List.set_cons_succ, i64_w, i32_w]
                                    rfl
                                  refine pure_ (i := 2) (N := some 93) (v := ?_) (a' := ?_) #[true, true, true, false, false, false, false, false, false, false, false, false, false] rfl rfl (by kernel_rfl) (fun _ _ _ h => h) (Or.inl ⟨by rfl, ?_⟩) ?_ ?_
                                  rotate_left
                                  · intro w'
                                    go_simp
                                    first | with_reducible rfl | rfl
                                  rotate_left
                                  · simp only [Act.put, List.setIfInBounds_toArray, List.set_cons_zero, List.set_cons_succ, i64_w, i32_w]
                                    rfl
                                  refine pure_ (i := 3) (N := some 94) (v := ?_) (a' := ?_) #[true, true, true, true, false, false, false, false, false, false, false, false, false] rfl rfl (by kernel_rfl) (fun _ _ _ h => h) (Or.inl ⟨by rfl, ?_⟩) ?_ ?_
                                  rotate_left
                                  · intro w'
                                    go_simp
                                    first | with_reducible rfl | rfl
                                  rotate_left
                                  · simp only [Act.put, List.setIfInBounds_toArray, List.set_cons_zero, List.set_cons_succ, i64_w, i32_w]
                                    rfl
                                  refine pure_ (i := 7) (N := some 98) (v := ?_) (a' := ?_) #[true, true, true, true, false, false, false, true, false, false, false, false, false] rfl rfl (by kernel_rfl) (fun _ _ _ h => h) (Or.inl ⟨by rfl, ?_⟩) ?_ ?_
                                  rotate_left
                                  · intro w'
                                    go_simp
                                    first | with_reducible rfl | rfl
                                  rotate_left
                                  · simp only [Act.put, List.setIfInBounds_toArray, List.set_cons_zero, List.set_cons_succ, i64_w, i32_w]
                                    rfl
                                  refine pure_ (i := 4) (N := some 95) (v := ?_) (a' := ?_) #[true, true, true, true, true, false, false, true, false, false, false, false, false] rfl rfl (by kernel_rfl) (fun _ _ _ h => h) (Or.inl ⟨by rfl, ?_⟩) ?_ ?_
                                  rotate_left
                                  · intro w'
                                    go_simp
                                    first | with_reducible rfl | rfl
                                  rotate_left
                                  · simp only [Act.put, List.setIfInBounds_toArray, List.set_cons_zero, List.set_cons_succ, i64_w, i32_w]
                                    rfl
                                  refine pure_ (i := 10) (N := some 101) (v := ?_) (a' := ?_) #[true, true, true, true, true, false, false, true, false, false, true, false, false] rfl rfl (by kernel_rfl) (fun _ _ _ h => h) (Or.inl ⟨by rfl, ?_⟩) ?_ ?_
                                  rotate_left
                                  · intro w'
                                    go_simp
                                    first | with_reducible rfl | rfl
                                  rotate_left
                                  · simp only [Act.put, List.setIfInBounds_toArray, List.set_cons_zero, List.set_cons_succ, i64_w, i32_w]
                                    rfl
                                  refine pure_ (i := 5) (N := some 96) (v := ?_) (a' := ?_) #[true, true, true, true, true, true, false, true, false, false, true, false, false] rfl rfl (by kernel_rfl) (fun _ _ _ h => h) (Or.inl ⟨by rfl, ?_⟩) ?_ ?_
                                  rotate_left
                                  · intro w'
                                    go_simp
                                    first | with_reducible rfl | rfl
                                  rotate_left
                                  · simp only [Act.put, List.setIfInBounds_toArray, List.set_cons_zero, List.set_cons_succ, i64_w, i32_w]
                                    rfl
                                  refine take_ (i := 6) (N := some 97) (v := ?_) (a' := ?_) #[true, true, true, true, true, true, true, true, false, false, true, false, false] rfl rfl (by kernel_rfl) (fun _ _ _ h => h) (Or.inl ⟨by rfl, ?_⟩) hHeld ?_ ?_
                                  rotate_left
                                  · intro w' s0
                                    go_simp
                                    first | with_reducible rfl | rfl
                                  rotate_left
                                  · simp only [Act.put, List.setIfInBounds_toArray, List.set_cons_zero, List.set_cons_succ, i64_w, i32_w]
                                    rfl
                                  have hA8 := below_alloc (Below.refl w21.heap.size w21) (.cells #[.int .i64 s] 3)
                                  refine one_ (i := 8) (N := some 99) #[true, true, true, true, true, true, true, true, true, false, true, false, false] rfl rfl (by kernel_rfl) (by decide) (fun K hK => ?_)
                                  refine value_ (w1 := w21.alloc (.cells #[.int .i64 s] 3)) (v := .slice (some ⟨w21.heap.size, 0, none⟩) 1 1) (by rfl) rfl ?_ ?_
                                  · first | (go_simp; done) | (go_simp; rfl)
                                  have hS8 : (w21.alloc (.cells #[.int .i64 s] 3)).cell? ⟨gn, rows.length, none⟩ = some (.slice Av acc.length cv) := (hA8.cell (World.block_lt_of_cell? _ _ ((blk_cell (HM.out.box 2 rfl) rows.length).trans (cellsOf_at HR2.out _)))).trans ((blk_cell (HM.out.box 2 rfl) rows.length).trans (cellsOf_at HR2.out _))
                                  refine hK.out _ _ hS8 (fun hHeld => ?_)
                                  clear hK K hS8 hA8
                                  refine norm_ (a' := ?_) ?_ ?_
                                  rotate_left
                                  · show Act.put _ (some 99) _ = _
                                    simp only [Act.put, List.setIfInBounds_toArray, List.set_cons_zero, List.set_cons_succ, i64_w, i32_w]
                                    rfl
                                  refine one_ (i := 9) (N := some 100) #[true, true, true, true, true, true, true, true, true, true, true, false, false] rfl rfl (by kernel_rfl) (by decide) (fun K hK => ?_)
                                  refine Kd.R_append_step (Kd.int .i64) (w0 := w) w.heap.size (by rfl) (.tmp 97) (.tmp 99) 22 3 (.int .i64 0) 8 rfl Try.underlying22 infoCO rfl (by decide) (by omega) (.slice Av acc.length cv) acc s [.int .i64 s] (fun _ => True) (fun _ => False) rfl rfl rfl (fun _ hk => hk.elim) (fun _ _ => trivial) (HM.out.R (h1 := fun _ => rfl) 0 rfl) HM.out.below HM.out.size (by have := HAC.out; omega) ?_
                                  intro v1 w23 ho hb hg hat
                                  have hsn : (acc ++ [s]).length = acc.length + 1 := by simp
                                  have n_ := Aside0.mk (HM.out.grow 0 rfl ho hb hg hat)
                                  clear HM
                                  have HM := n_
                                  clear n_
                                  obtain ⟨Av1, cv1, ev_⟩ := Kd.R_slice ho
                                  subst ev_
                                  clear ho hb hg hat
                                  replace HM : Aside0 (MS w w23 (.row 3 (.slice Av1 (acc ++ [s]).length cv1) (encs (Value.int .i64) (acc ++ [s])) :: .any ol (Agree ol wl) :: .box gn 63 ((cellsOf 4 rows).setIfInBounds rows.length (.slice Av acc.length cv)) :: (its 3 rows ++ [.any own (Agree own W1)]))) := ⟨HM.out⟩
                                  have hcl23 := (blk_cell (HM.out.box 2 rfl) rows.length).trans (cellsOf_at HR2.out _)
                                  refine hK.out _ _ hcl23 (fun hHeld => ?_)
                                  clear hK K hsn
                                  refine norm_ (a' := ?_) ?_ ?_
                                  rotate_left
                                  · show Act.put _ (some 100) _ = _
                                    simp only [Act.put, List.setIfInBounds_toArray, List.set_cons_zero, List.set_cons_succ, i64_w, i32_w]
                                    rfl
                                  refine pure_ (i := 11) (N := some 102) (v := ?_) (a' := ?_) #[true, true, true, true, true, true, true, true, true, true, true, true, false] rfl rfl (by kernel_rfl) (fun _ _ _ h => h) (Or.inl ⟨by rfl, ?_⟩) ?_ ?_
                                  rotate_left
                                  · intro w'
                                    go_simp
                                    first | with_reducible rfl | rfl
                                  rotate_left
                                  · simp only [Act.put, List.setIfInBounds_toArray, List.set_cons_zero, List.set_cons_succ, i64_w, i32_w]
                                    rfl
                                  have hfr23 := blk_frozen (HM.out.box 2 rfl) rows.length
                                  refine last_ (i := 12) (N := none) #[true, true, true, true, true, true, true, true, true, true, true, true, true] rfl rfl (by kernel_rfl) (by decide) (fun K hK => ?_)
                                  refine skip_ (w1 := w23.setCell ⟨gn, rows.length, none⟩ (.slice Av1 (acc ++ [s]).length cv1)) (by rfl) rfl ?_ ?_
                                  · first | (go_simp; done) | (go_simp; rfl)
                                  generalize hw : w23.setCell ⟨gn, rows.length, none⟩ (.slice Av1 (acc ++ [s]).length cv1) = w24
                                  have n_ : Aside0 (MS w w24 (.row 3 (.slice Av1 (acc ++ [s]).length cv1) (encs (Value.int .i64) (acc ++ [s])) :: .any ol (Agree ol wl) :: .box gn 63 ((cellsOf 4 rows).setIfInBounds rows.length (.slice Av1 (acc ++ [s]).length cv1)) :: (its 3 rows ++ [.any own (Agree own W1)]))) := ⟨by rw [← hw]; exact HM.out.setBox 2 rfl rows.length _ (cellsOf_set2 HR2.out _ _)⟩
                                  clear HM hw hcl23 hfr23
                                  have HM := n_
                                  clear n_
                                  refine hK.out _ _ ?_
                                  clear hK K
                                  refine done_ (by kernel_rfl) ?_
                                  go_wp2
                                  go_roundg (ls.length - (j + 1))
                                  case measure => have h1 := HD.out; have h2 := HJ.out; omega
                                  case rel =>
                                    refine ⟨wrap64 (x3 + 1), j + 1, Av1, cv1, acc ++ [s], by first | rfl | (simp; done) | (simp [*]; done), ⟨?_, ?_, ?_, ?_, ?_⟩, HM⟩
                                    · have h1 := HX3.out; have h2 := HJ.out; have h3 := HLN.out; unfold wrap64; omega
                                    · have h2 := HJ.out; omega
                                    · omega
                                    · have h1 := HD.out.2.2.2.1; rw [List.length_append, h1]; rfl
                                    · exact ⟨rest2, HT.out.1, by rw [HT.out.2]; simp⟩
                                · rw [if_neg ck] at H
                                  have dk := decide_eq_false ck
                                  clear ck
                                  have H1 := Option.bind_eq_some_iff.1 H
                                  obtain ⟨v, hv, H2⟩ := H1
                                  have HV := Aside0.mk hv
                                  have H' := Aside0.mk H2
                                  clear H H2 hv
                                  go_wp2_with (first | ((with_reducible refine gate_callee (f := 42) rfl ?_); (with_reducible refine gate_dst (N := 88) rfl ?_); refine goesL_ (some 88) rfl rfl Try.func42 (by kernel_rfl) rfl #[.pointer (some ⟨gq, 0, none⟩), .slice (some ade) ji.toNat ce] rfl (by (try simp only [List.map_toArray, List.map_cons, List.map_nil]); first | done | rfl) ?_; (with_reducible refine (HCALL.out v _ HM.out HV.out).mono ?_); rintro e_ w26 ⟨rfl, hd_⟩; refine ⟨_, rfl, ?_⟩; have hb := hd_.below; have n_ := Aside0.mk (HM.out.step hb); clear HM hb hd_; have HM := n_; clear n_))
                                  go_roundg q
                                  case measure => omega
                                  case rel => exact ⟨wrap64 (sum + wrap64 (sg * v)), wrap64 (kk + 1), sg, by first | rfl | (simp; done) | (simp [*]; done), by first | rfl | (simp; done) | (simp [*]; done), by first | rfl | (simp; done) | (simp [*]; done), H', ⟨by have := HKq.out; omega⟩, HM⟩
                              · rw [if_neg cm] at H
                                have dm := decide_eq_false cm
                                clear cm
                                by_cases cn : m < 0
                                · rw [if_pos cn] at H
                                  have dn := decide_eq_true cn
                                  clear cn
                                  have H1 := Option.bind_eq_some_iff.1 H
                                  obtain ⟨v, hv, H2⟩ := H1
                                  have HV := Aside0.mk hv
                                  have H' := Aside0.mk H2
                                  clear H H2 hv
                                  go_wp2_with (first | ((with_reducible refine gate_callee (f := 42) rfl ?_); (with_reducible refine gate_dst (N := 88) rfl ?_); refine goesL_ (some 88) rfl rfl Try.func42 (by kernel_rfl) rfl #[.pointer (some ⟨gq, 0, none⟩), .slice (some ade) ji.toNat ce] rfl (by (try simp only [List.map_toArray, List.map_cons, List.map_nil]); first | done | rfl) ?_; (with_reducible refine (HCALL.out v _ HM.out HV.out).mono ?_); rintro e_ w26 ⟨rfl, hd_⟩; refine ⟨_, rfl, ?_⟩; have hb := hd_.below; have n_ := Aside0.mk (HM.out.step hb); clear HM hb hd_; have HM := n_; clear n_))
                                  go_roundg q
                                  case measure => omega
                                  case rel => exact ⟨wrap64 (sum + wrap64 ((wrap64 (-sg)) * v)), wrap64 (kk + 1), (wrap64 (-sg)), by first | rfl | (simp; done) | (simp [*]; done), by first | rfl | (simp; done) | (simp [*]; done), by first | rfl | (simp; done) | (simp [*]; done), H', ⟨by have := HKq.out; omega⟩, HM⟩
                                · rw [if_neg cn] at H
                                  have dn := decide_eq_false cn
                                  clear cn
                                  have H1 := Option.bind_eq_some_iff.1 H
                                  obtain ⟨v, hv, H2⟩ := H1
                                  have HV := Aside0.mk hv
                                  have H' := Aside0.mk H2
                                  clear H H2 hv
                                  go_wp2_with (first | ((with_reducible refine gate_callee (f := 42) rfl ?_); (with_reducible refine gate_dst (N := 88) rfl ?_); refine goesL_ (some 88) rfl rfl Try.func42 (by kernel_rfl) rfl #[.pointer (some ⟨gq, 0, none⟩), .slice (some ade) ji.toNat ce] rfl (by (try simp only [List.map_toArray, List.map_cons, List.map_nil]); first | done | rfl) ?_; (with_reducible refine (HCALL.out v _ HM.out HV.out).mono ?_); rintro e_ w26 ⟨rfl, hd_⟩; refine ⟨_, rfl, ?_⟩; have hb := hd_.below; have n_ := Aside0.mk (HM.out.step hb); clear HM hb hd_; have HM := n_; clear n_))
                                  go_roundg q
                                  case measure => omega
                                  case rel => exact ⟨wrap64 (sum + wrap64 (sg * v)), wrap64 (kk + 1), sg, by first | rfl | (simp; done) | (simp [*]; done), by first | rfl | (simp; done) | (simp [*]; done), by first | rfl | (simp; done) | (simp [*]; done), H', ⟨by have := HKq.out; omega⟩, HM⟩
                            · rw [if_neg cd] at H
                              have dd : (rd l ji == t) = false := beq_eq_false_iff_ne.mpr cd
                              clear cd
                              obtain rfl : s = sum := (Option.some.inj H).symm
                              clear H
                              clear HCALL hcut
                              go_wp2
                              have n_ := Aside0.mk (HM.out.step (below_drew1 (Below.refl w18.heap.size w18)))
                              clear HM
                              have HM := n_
                              clear n_
                              refine start_ (n := 13) (S := fun w' => w'.cell? ⟨gn, rows.length, none⟩ = some (.slice Av acc.length cv)) (ds := [12]) #[false, false, false, false, false, false, false, false, false, false, false, false, false] (by kernel_rfl) rfl rfl ((blk_cell (HM.out.box 2 rfl) rows.length).trans (cellsOf_at HR2.out _)) (fun hHeld => ?_)
                              generalize w18.drew = w21 at HM hHeld ⊢
                              refine pure_ (i := 0) (N := some 91) (v := ?_) (a' := ?_) #[true, false, false, false, false, false, false, false, false, false, false, false, false] rfl rfl (by kernel_rfl) (fun _ _ _ h => h) (Or.inl ⟨by rfl, ?_⟩) ?_ ?_
                              rotate_left
                              · intro w'
                                go_simp
                                first | with_reducible rfl | rfl
                              rotate_left
                              · simp only [Act.put, List.setIfInBounds_toArray, List.set_cons_zero, List.set_cons_succ, i64_w, i32_w]
                                rfl
                              refine pure_ (i := 1) (N := some 92) (v := ?_) (a' := ?_) #[true, true, false, false, false, false, false, false, false, false, false, false, false] rfl rfl (by kernel_rfl) (fun _ _ _ h => h) (Or.inl ⟨by rfl, ?_⟩) ?_ ?_
                              rotate_left
                              · intro w'
                                go_simp
                                first | with_reducible rfl | rfl
                              rotate_left
                              · simp only [Act.put, List.setIfInBounds_toArray, List.set_cons_zero, List.set_cons_succ, i64_w, i32_w]
                                rfl
                              refine pure_ (i := 2) (N := some 93) (v := ?_) (a' := ?_) #[true, true, true, false, false, false, false, false, false, false, false, false, false] rfl rfl (by kernel_rfl) (fun _ _ _ h => h) (Or.inl ⟨by rfl, ?_⟩) ?_ ?_
                              rotate_left
                              · intro w'
                                go_simp
                                first | with_reducible rfl | rfl
                              rotate_left
                              · simp only [Act.put, List.setIfInBounds_toArray, List.set_cons_zero, List.set_cons_succ, i64_w, i32_w]
                                rfl
                              refine pure_ (i := 3) (N := some 94) (v := ?_) (a' := ?_) #[true, true, true, true, false, false, false, false, false, false, false, false, false] rfl rfl (by kernel_rfl) (fun _ _ _ h => h) (Or.inl ⟨by rfl, ?_⟩) ?_ ?_
                              rotate_left
                              · intro w'
                                go_simp
                                first | with_reducible rfl | rfl
                              rotate_left
                              · simp only [Act.put, List.setIfInBounds_toArray, List.set_cons_zero, List.set_cons_succ, i64_w, i32_w]
                                rfl
                              refine pure_ (i := 7) (N := some 98) (v := ?_) (a' := ?_) #[true, true, true, true, false, false, false, true, false, false, false, false, false] rfl rfl (by kernel_rfl) (fun _ _ _ h => h) (Or.inl ⟨by rfl, ?_⟩) ?_ ?_
                              rotate_left
                              · intro w'
                                go_simp
                                first | with_reducible rfl | rfl
                              rotate_left
                              · simp only [Act.put, List.setIfInBounds_toArray, List.set_cons_zero, List.set_cons_succ, i64_w, i32_w]
                                rfl
                              refine pure_ (i := 4) (N := some 95) (v := ?_) (a' := ?_) #[true, true, true, true, true, false, false, true, false, false, false, false, false] rfl rfl (by kernel_rfl) (fun _ _ _ h => h) (Or.inl ⟨by rfl, ?_⟩) ?_ ?_
                              rotate_left
                              · intro w'
                                go_simp
                                first | with_reducible rfl | rfl
                              rotate_left
                              · simp only [Act.put, List.setIfInBounds_toArray, List.set_cons_zero, List.set_cons_succ, i64_w, i32_w]
                                rfl
                              refine pure_ (i := 10) (N := some 101) (v := ?_) (a' := ?_) #[true, true, true, true, true, false, false, true, false, false, true, false, false] rfl rfl (by kernel_rfl) (fun _ _ _ h => h) (Or.inl ⟨by rfl, ?_⟩) ?_ ?_
                              rotate_left
                              · intro w'
                                go_simp
                                first | with_reducible rfl | rfl
                              rotate_left
                              · simp only [Act.put, List.setIfInBounds_toArray, List.set_cons_zero, List.set_cons_succ, i64_w, i32_w]
                                rfl
                              refine pure_ (i := 5) (N := some 96) (v := ?_) (a' := ?_) #[true, true, true, true, true, true, false, true, false, false, true, false, false] rfl rfl (by kernel_rfl) (fun _ _ _ h => h) (Or.inl ⟨by rfl, ?_⟩) ?_ ?_
                              rotate_left
                              · intro w'
                                go_simp
                                first | with_reducible rfl | rfl
                              rotate_left
                              · simp only [Act.put, List.setIfInBounds_toArray, List.set_cons_zero, List.set_cons_succ, i64_w, i32_w]
                                rfl
                              refine take_ (i := 6) (N := some 97) (v := ?_) (a' := ?_) #[true, true, true, true, true, true, true, true, false, false, true, false, false] rfl rfl (by kernel_rfl) (fun _ _ _ h => h) (Or.inl ⟨by rfl, ?_⟩) hHeld ?_ ?_
                              rotate_left
                              · intro w' s0
                                go_simp
                                first | with_reducible rfl | rfl
                              rotate_left
                              · simp only [Act.put, List.setIfInBounds_toArray, List.set_cons_zero, List.set_cons_succ, i64_w, i32_w]
                                rfl
                              have hA8 := below_alloc (Below.refl w21.heap.size w21) (.cells #[.int .i64 s] 3)
                              refine one_ (i := 8) (N := some 99) #[true, true, true, true, true, true, true, true, true, false, true, false, false] rfl rfl (by kernel_rfl) (by decide) (fun K hK => ?_)
                              refine value_ (w1 := w21.alloc (.cells #[.int .i64 s] 3)) (v := .slice (some ⟨w21.heap.size, 0, none⟩) 1 1) (by rfl) rfl ?_ ?_
                              · first | (go_simp; done) | (go_simp; rfl)
                              have hS8 : (w21.alloc (.cells #[.int .i64 s] 3)).cell? ⟨gn, rows.length, none⟩ = some (.slice Av acc.length cv) := (hA8.cell (World.block_lt_of_cell? _ _ ((blk_cell (HM.out.box 2 rfl) rows.length).trans (cellsOf_at HR2.out _)))).trans ((blk_cell (HM.out.box 2 rfl) rows.length).trans (cellsOf_at HR2.out _))
                              refine hK.out _ _ hS8 (fun hHeld => ?_)
                              clear hK K hS8 hA8
                              refine norm_ (a' := ?_) ?_ ?_
                              rotate_left
                              · show Act.put _ (some 99) _ = _
                                simp only [Act.put, List.setIfInBounds_toArray, List.set_cons_zero, List.set_cons_succ, i64_w, i32_w]
                                rfl
                              refine one_ (i := 9) (N := some 100) #[true, true, true, true, true, true, true, true, true, true, true, false, false] rfl rfl (by kernel_rfl) (by decide) (fun K hK => ?_)
                              refine Kd.R_append_step (Kd.int .i64) (w0 := w) w.heap.size (by rfl) (.tmp 97) (.tmp 99) 22 3 (.int .i64 0) 8 rfl Try.underlying22 infoCO rfl (by decide) (by omega) (.slice Av acc.length cv) acc s [.int .i64 s] (fun _ => True) (fun _ => False) rfl rfl rfl (fun _ hk => hk.elim) (fun _ _ => trivial) (HM.out.R (h1 := fun _ => rfl) 0 rfl) HM.out.below HM.out.size (by have := HAC.out; omega) ?_
                              intro v1 w23 ho hb hg hat
                              have hsn : (acc ++ [s]).length = acc.length + 1 := by simp
                              have n_ := Aside0.mk (HM.out.grow 0 rfl ho hb hg hat)
                              clear HM
                              have HM := n_
                              clear n_
                              obtain ⟨Av1, cv1, ev_⟩ := Kd.R_slice ho
                              subst ev_
                              clear ho hb hg hat
                              replace HM : Aside0 (MS w w23 (.row 3 (.slice Av1 (acc ++ [s]).length cv1) (encs (Value.int .i64) (acc ++ [s])) :: .any ol (Agree ol wl) :: .box gn 63 ((cellsOf 4 rows).setIfInBounds rows.length (.slice Av acc.length cv)) :: (its 3 rows ++ [.any own (Agree own W1)]))) := ⟨HM.out⟩
                              have hcl23 := (blk_cell (HM.out.box 2 rfl) rows.length).trans (cellsOf_at HR2.out _)
                              refine hK.out _ _ hcl23 (fun hHeld => ?_)
                              clear hK K hsn
                              refine norm_ (a' := ?_) ?_ ?_
                              rotate_left
                              · show Act.put _ (some 100) _ = _
                                simp only [Act.put, List.setIfInBounds_toArray, List.set_cons_zero, List.set_cons_succ, i64_w, i32_w]
                                rfl
                              refine pure_ (i := 11) (N := some 102) (v := ?_) (a' := ?_) #[true, true, true, true, true, true, true, true, true, true, true, true, false] rfl rfl (by kernel_rfl) (fun _ _ _ h => h) (Or.inl ⟨by rfl, ?_⟩) ?_ ?_
                              rotate_left
                              · intro w'
                                go_simp
                                first | with_reducible rfl | rfl
                              rotate_left
                              · simp only [Act.put, List.setIfInBounds_toArray, List.set_cons_zero, List.set_cons_succ, i64_w, i32_w]
                                rfl
                              have hfr23 := blk_frozen (HM.out.box 2 rfl) rows.length
                              refine last_ (i := 12) (N := none) #[true, true, true, true, true, true, true, true, true, true, true, true, true] rfl rfl (by kernel_rfl) (by decide) (fun K hK => ?_)
                              refine skip_ (w1 := w23.setCell ⟨gn, rows.length, none⟩ (.slice Av1 (acc ++ [s]).length cv1)) (by rfl) rfl ?_ ?_
                              · first | (go_simp; done) | (go_simp; rfl)
                              generalize hw : w23.setCell ⟨gn, rows.length, none⟩ (.slice Av1 (acc ++ [s]).length cv1) = w24
                              have n_ : Aside0 (MS w w24 (.row 3 (.slice Av1 (acc ++ [s]).length cv1) (encs (Value.int .i64) (acc ++ [s])) :: .any ol (Agree ol wl) :: .box gn 63 ((cellsOf 4 rows).setIfInBounds rows.length (.slice Av1 (acc ++ [s]).length cv1)) :: (its 3 rows ++ [.any own (Agree own W1)]))) := ⟨by rw [← hw]; exact HM.out.setBox 2 rfl rows.length _ (cellsOf_set2 HR2.out _ _)⟩
                              clear HM hw hcl23 hfr23
                              have HM := n_
                              clear n_
                              refine hK.out _ _ ?_
                              clear hK K
                              refine done_ (by kernel_rfl) ?_
                              go_wp2
                              go_roundg (ls.length - (j + 1))
                              case measure => have h1 := HD.out; have h2 := HJ.out; omega
                              case rel =>
                                refine ⟨wrap64 (x3 + 1), j + 1, Av1, cv1, acc ++ [s], by first | rfl | (simp; done) | (simp [*]; done), ⟨?_, ?_, ?_, ?_, ?_⟩, HM⟩
                                · have h1 := HX3.out; have h2 := HJ.out; have h3 := HLN.out; unfold wrap64; omega
                                · have h2 := HJ.out; omega
                                · omega
                                · have h1 := HD.out.2.2.2.1; rw [List.length_append, h1]; rfl
                                · exact ⟨rest2, HT.out.1, by rw [HT.out.2]; simp⟩
                          · rw [if_neg cc] at H
                            cases H
                        · rw [if_neg cb] at H
                          cases H
                      · rw [if_neg ca] at H
                        have da := decide_eq_false ca
                        clear ca
                        obtain rfl : s = sum := (Option.some.inj H).symm
                        clear H
                        go_wp2
                        go_quiet (fail)
                        generalize hw : World.drewN _ _ = w18
                        have n_ := Aside0.mk (HM.out.step (show Below _ _ w18 from hw ▸ pw_below_drewN (Below.refl _ _) _))
                        clear HM hw
                        have HM := n_
                        clear n_
                        go_wp2
                        have n_ := Aside0.mk (HM.out.step (below_drew1 (Below.refl w18.heap.size w18)))
                        clear HM
                        have HM := n_
                        clear n_
                        refine start_ (n := 13) (S := fun w' => w'.cell? ⟨gn, rows.length, none⟩ = some (.slice Av acc.length cv)) (ds := [12]) #[false, false, false, false, false, false, false, false, false, false, false, false, false] (by kernel_rfl) rfl rfl ((blk_cell (HM.out.box 2 rfl) rows.length).trans (cellsOf_at HR2.out _)) (fun hHeld => ?_)
                        generalize w18.drew = w21 at HM hHeld ⊢
                        refine pure_ (i := 0) (N := some 91) (v := ?_) (a' := ?_) #[true, false, false, false, false, false, false, false, false, false, false, false, false] rfl rfl (by kernel_rfl) (fun _ _ _ h => h) (Or.inl ⟨by rfl, ?_⟩) ?_ ?_
                        rotate_left
                        · intro w'
                          go_simp
                          first | with_reducible rfl | rfl
                        rotate_left
                        · simp only [Act.put, List.setIfInBounds_toArray, List.set_cons_zero, List.set_cons_succ, i64_w, i32_w]
                          rfl
                        refine pure_ (i := 1) (N := some 92) (v := ?_) (a' := ?_) #[true, true, false, false, false, false, false, false, false, false, false, false, false] rfl rfl (by kernel_rfl) (fun _ _ _ h => h) (Or.inl ⟨by rfl, ?_⟩) ?_ ?_
                        rotate_left
                        · intro w'
                          go_simp
                          first | with_reducible rfl | rfl
                        rotate_left
                        · simp only [Act.put, List.setIfInBounds_toArray, List.set_cons_zero, List.set_cons_succ, i64_w, i32_w]
                          rfl
                        refine pure_ (i := 2) (N := some 93) (v := ?_) (a' := ?_) #[true, true, true, false, false, false, false, false, false, false, false, false, false] rfl rfl (by kernel_rfl) (fun _ _ _ h => h) (Or.inl ⟨by rfl, ?_⟩) ?_ ?_
                        rotate_left
                        · intro w'
                          go_simp
                          first | with_reducible rfl | rfl
                        rotate_left
                        · simp only [Act.put, List.setIfInBounds_toArray, List.set_cons_zero, List.set_cons_succ, i64_w, i32_w]
                          rfl
                        refine pure_ (i := 3) (N := some 94) (v := ?_) (a' := ?_) #[true, true, true, true, false, false, false, false, false, false, false, false, false] rfl rfl (by kernel_rfl) (fun _ _ _ h => h) (Or.inl ⟨by rfl, ?_⟩) ?_ ?_
                        rotate_left
                        · intro w'
                          go_simp
                          first | with_reducible rfl | rfl
                        rotate_left
                        · simp only [Act.put, List.setIfInBounds_toArray, List.set_cons_zero, List.set_cons_succ, i64_w, i32_w]
                          rfl
                        refine pure_ (i := 7) (N := some 98) (v := ?_) (a' := ?_) #[true, true, true, true, false, false, false, true, false, false, false, false, false] rfl rfl (by kernel_rfl) (fun _ _ _ h => h) (Or.inl ⟨by rfl, ?_⟩) ?_ ?_
                        rotate_left
                        · intro w'
                          go_simp
                          first | with_reducible rfl | rfl
                        rotate_left
                        · simp only [Act.put, List.setIfInBounds_toArray, List.set_cons_zero, List.set_cons_succ, i64_w, i32_w]
                          rfl
                        refine pure_ (i := 4) (N := some 95) (v := ?_) (a' := ?_) #[true, true, true, true, true, false, false, true, false, false, false, false, false] rfl rfl (by kernel_rfl) (fun _ _ _ h => h) (Or.inl ⟨by rfl, ?_⟩) ?_ ?_
                        rotate_left
                        · intro w'
                          go_simp
                          first | with_reducible rfl | rfl
                        rotate_left
                        · simp only [Act.put, List.setIfInBounds_toArray, List.set_cons_zero, List.set_cons_succ, i64_w, i32_w]
                          rfl
                        refine pure_ (i := 10) (N := some 101) (v := ?_) (a' := ?_) #[true, true, true, true, true, false, false, true, false, false, true, false, false] rfl rfl (by kernel_rfl) (fun _ _ _ h => h) (Or.inl ⟨by rfl, ?_⟩) ?_ ?_
                        rotate_left
                        · intro w'
                          go_simp
                          first | with_reducible rfl | rfl
                        rotate_left
                        · simp only [Act.put, List.setIfInBounds_toArray, List.set_cons_zero, List.set_cons_succ, i64_w, i32_w]
                          rfl
                        refine pure_ (i := 5) (N := some 96) (v := ?_) (a' := ?_) #[true, true, true, true, true, true, false, true, false, false, true, false, false] rfl rfl (by kernel_rfl) (fun _ _ _ h => h) (Or.inl ⟨by rfl, ?_⟩) ?_ ?_
                        rotate_left
                        · intro w'
                          go_simp
                          first | with_reducible rfl | rfl
                        rotate_left
                        · simp only [Act.put, List.setIfInBounds_toArray, List.set_cons_zero, List.set_cons_succ, i64_w, i32_w]
                          rfl
                        refine take_ (i := 6) (N := some 97) (v := ?_) (a' := ?_) #[true, true, true, true, true, true, true, true, false, false, true, false, false] rfl rfl (by kernel_rfl) (fun _ _ _ h => h) (Or.inl ⟨by rfl, ?_⟩) hHeld ?_ ?_
                        rotate_left
                        · intro w' s0
                          go_simp
                          first | with_reducible rfl | rfl
                        rotate_left
                        · simp only [Act.put, List.setIfInBounds_toArray, List.set_cons_zero, List.set_cons_succ, i64_w, i32_w]
                          rfl
                        have hA8 := below_alloc (Below.refl w21.heap.size w21) (.cells #[.int .i64 s] 3)
                        refine one_ (i := 8) (N := some 99) #[true, true, true, true, true, true, true, true, true, false, true, false, false] rfl rfl (by kernel_rfl) (by decide) (fun K hK => ?_)
                        refine value_ (w1 := w21.alloc (.cells #[.int .i64 s] 3)) (v := .slice (some ⟨w21.heap.size, 0, none⟩) 1 1) (by rfl) rfl ?_ ?_
                        · first | (go_simp; done) | (go_simp; rfl)
                        have hS8 : (w21.alloc (.cells #[.int .i64 s] 3)).cell? ⟨gn, rows.length, none⟩ = some (.slice Av acc.length cv) := (hA8.cell (World.block_lt_of_cell? _ _ ((blk_cell (HM.out.box 2 rfl) rows.length).trans (cellsOf_at HR2.out _)))).trans ((blk_cell (HM.out.box 2 rfl) rows.length).trans (cellsOf_at HR2.out _))
                        refine hK.out _ _ hS8 (fun hHeld => ?_)
                        clear hK K hS8 hA8
                        refine norm_ (a' := ?_) ?_ ?_
                        rotate_left
                        · show Act.put _ (some 99) _ = _
                          simp only [Act.put, List.setIfInBounds_toArray, List.set_cons_zero, List.set_cons_succ, i64_w, i32_w]
                          rfl
                        refine one_ (i := 9) (N := some 100) #[true, true, true, true, true, true, true, true, true, true, true, false, false] rfl rfl (by kernel_rfl) (by decide) (fun K hK => ?_)
                        refine Kd.R_append_step (Kd.int .i64) (w0 := w) w.heap.size (by rfl) (.tmp 97) (.tmp 99) 22 3 (.int .i64 0) 8 rfl Try.underlying22 infoCO rfl (by decide) (by omega) (.slice Av acc.length cv) acc s [.int .i64 s] (fun _ => True) (fun _ => False) rfl rfl rfl (fun _ hk => hk.elim) (fun _ _ => trivial) (HM.out.R (h1 := fun _ => rfl) 0 rfl) HM.out.below HM.out.size (by have := HAC.out; omega) ?_
                        intro v1 w23 ho hb hg hat
                        have hsn : (acc ++ [s]).length = acc.length + 1 := by simp
                        have n_ := Aside0.mk (HM.out.grow 0 rfl ho hb hg hat)
                        clear HM
                        have HM := n_
                        clear n_
                        obtain ⟨Av1, cv1, ev_⟩ := Kd.R_slice ho
                        subst ev_
                        clear ho hb hg hat
                        replace HM : Aside0 (MS w w23 (.row 3 (.slice Av1 (acc ++ [s]).length cv1) (encs (Value.int .i64) (acc ++ [s])) :: .any ol (Agree ol wl) :: .box gn 63 ((cellsOf 4 rows).setIfInBounds rows.length (.slice Av acc.length cv)) :: (its 3 rows ++ [.any own (Agree own W1)]))) := ⟨HM.out⟩
                        have hcl23 := (blk_cell (HM.out.box 2 rfl) rows.length).trans (cellsOf_at HR2.out _)
                        refine hK.out _ _ hcl23 (fun hHeld => ?_)
                        clear hK K hsn
                        refine norm_ (a' := ?_) ?_ ?_
                        rotate_left
                        · show Act.put _ (some 100) _ = _
                          simp only [Act.put, List.setIfInBounds_toArray, List.set_cons_zero, List.set_cons_succ, i64_w, i32_w]
                          rfl
                        refine pure_ (i := 11) (N := some 102) (v := ?_) (a' := ?_) #[true, true, true, true, true, true, true, true, true, true, true, true, false] rfl rfl (by kernel_rfl) (fun _ _ _ h => h) (Or.inl ⟨by rfl, ?_⟩) ?_ ?_
                        rotate_left
                        · intro w'
                          go_simp
                          first | with_reducible rfl | rfl
                        rotate_left
                        · simp only [Act.put, List.setIfInBounds_toArray, List.set_cons_zero, List.set_cons_succ, i64_w, i32_w]
                          rfl
                        have hfr23 := blk_frozen (HM.out.box 2 rfl) rows.length
                        refine last_ (i := 12) (N := none) #[true, true, true, true, true, true, true, true, true, true, true, true, true] rfl rfl (by kernel_rfl) (by decide) (fun K hK => ?_)
                        refine skip_ (w1 := w23.setCell ⟨gn, rows.length, none⟩ (.slice Av1 (acc ++ [s]).length cv1)) (by rfl) rfl ?_ ?_
                        · first | (go_simp; done) | (go_simp; rfl)
                        generalize hw : w23.setCell ⟨gn, rows.length, none⟩ (.slice Av1 (acc ++ [s]).length cv1) = w24
                        have n_ : Aside0 (MS w w24 (.row 3 (.slice Av1 (acc ++ [s]).length cv1) (encs (Value.int .i64) (acc ++ [s])) :: .any ol (Agree ol wl) :: .box gn 63 ((cellsOf 4 rows).setIfInBounds rows.length (.slice Av1 (acc ++ [s]).length cv1)) :: (its 3 rows ++ [.any own (Agree own W1)]))) := ⟨by rw [← hw]; exact HM.out.setBox 2 rfl rows.length _ (cellsOf_set2 HR2.out _ _)⟩
                        clear HM hw hcl23 hfr23
                        have HM := n_
                        clear n_
                        refine hK.out _ _ ?_
                        clear hK K
                        refine done_ (by kernel_rfl) ?_
                        go_wp2
                        go_roundg (ls.length - (j + 1))
                        case measure => have h1 := HD.out; have h2 := HJ.out; omega
                        case rel =>
                          refine ⟨wrap64 (x3 + 1), j + 1, Av1, cv1, acc ++ [s], by first | rfl | (simp; done) | (simp [*]; done), ⟨?_, ?_, ?_, ?_, ?_⟩, HM⟩
                          · have h1 := HX3.out; have h2 := HJ.out; have h3 := HLN.out; unfold wrap64; omega
                          · have h2 := HJ.out; omega
                          · omega
                          · have h1 := HD.out.2.2.2.1; rw [List.length_append, h1]; rfl
                          · exact ⟨rest2, HT.out.1, by rw [HT.out.2]; simp⟩
                · have d3 := decide_eq_false hx3
                  have hRa : R = acc := by
                    obtain ⟨rest, h1, h2⟩ := HD.out.2.2.2.2
                    rw [List.drop_eq_nil_of_le (by have := HD.out.1; omega), rowOf] at h1
                    rw [h2, ← Option.some.inj h1, List.append_nil]
                  have n_ := Aside0.mk (HM.out.stand HR2.out)
                  clear HM
                  have HM := n_
                  clear n_
                  have HRA := Aside0.mk hRa
                  clear hRa hx3
                  go_wp2
                  go_roundg (4 - (rows.length + 1))
                  case measure => have h1 := HI2.out; have h2 := HR2.out; omega
                  case rel =>
                    refine ⟨wrap64 (x2 + 1), _, by first | rfl | (simp; done) | (simp [*]; done), ⟨?_, ?_, ?_, ?_⟩, HM⟩
                    · have h1 := HXI.out; have h2 := HR2.out; rw [List.length_append]; simp only [List.length_cons, List.length_nil]; unfold wrap64; omega
                    · have h2 := HR2.out; rw [List.length_append]; simp only [List.length_cons, List.length_nil]; omega
                    · rw [List.length_append]; simp only [List.length_cons, List.length_nil]; omega
                    · rw [List.map_append, HI2.out.2.2.2, List.length_append]
                      simp only [List.length_cons, List.length_nil, List.map_cons, List.map_nil]
                      rw [List.take_add_one, HR1.out, ← HRA.out]
                      rfl
            · have d0 := decide_eq_false hx
              have hr4 : rows.length = 4 := by have := HI2.out; omega
              have hmap := HI2.out.2.2.2
              have hl4 := cstep_len HCS.out
              rw [hr4, List.take_of_length_le (by omega)] at hmap
              obtain ⟨own2, hF, hM⟩ := HM.out.toF hr4 (by omega)
              rw [hmap] at hF
              clear HM
              have HM := Aside0.mk (show MS w wr [.any own2 (Agree own2 wr)] from hM.drop 1)
              obtain ⟨w7, hw7⟩ : ∃ w7 : World, w7 = wr := ⟨_, rfl⟩
              have HF2 : Aside0 (Kd.F (Kd.slice 3 (Kd.int .i64)) w7 own2 (some ⟨gn, 0, none⟩) 4 C') := ⟨by rw [hw7]; exact hF⟩
              replace HM : Aside0 (MS w wr [.any own2 (Agree own2 w7)]) := ⟨by rw [hw7]; exact HM.out⟩
              have HL4 := Aside0.mk hl4
              clear hF hM hmap hr4 hx hl4 hw7
              go_wp2
              go_roundg (l0.length - (i + 1))
              case measure => have h1 := HI.out; have h2 := HI1.out; omega
              case rel =>
                refine ⟨wrap64 (x + 1), i + 1, gn, own2, w7, C', by first | rfl | (simp; done) | (simp [*]; done), by first | rfl | (simp; done) | (simp [*]; done), ⟨?_, ?_, ?_, HL4.out, HCO.out⟩, HF2, HM⟩
                · have h1 := HI.out.1; have h2 := HI1.out; have h3 := (Kd.C_max HR0.out); unfold wrap64; omega
                · have h2 := HI1.out; omega
                · omega
        · have d0 := decide_eq_false hx
          have hC : C = r := by
            have h1 := HI.out.2.2.2.2
            rw [List.drop_eq_nil_of_le (by have := hR0.2; omega), cofl] at h1
            exact Option.some.inj h1
          subst hC
          clear hx hR0
          go_wp2
          go_ret
          exact ⟨_, by first | rfl | (simp; done), ⟨HI.out.2.2.2.1, gq, rfl, HM.out.retF 0 rfl HF.out⟩, HM.out.below⟩
end Go.Proofs.Ytblhjcdfccggfaa.Q
