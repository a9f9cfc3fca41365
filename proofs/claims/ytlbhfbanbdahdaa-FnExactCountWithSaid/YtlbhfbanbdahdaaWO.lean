/- The words of a length, as the program lists them: a function that calls itself through its variable, and adds to a row of rows. Conditions stand in each theorem. -/
import Derived.Test.YtlbhfbanbdahdaaQA
import Derived.Test.YtlbhfbanbdahdaaCN
import Derived.Lib.SliceRun
import Derived.Laws.EntriesVeiled
namespace Go.Proofs.Ytlbhfbanbdahdaa.Q
open Go.RowKit Go.Proofs.YtlbhfbanbdahdaaW.PrintWords Go.Proofs.YtlbhfbanbdahdaaW.PrintLast Go.Proofs.YtlbhfbanbdahdaaW.PrintMore Go.Proofs.YtlbhfbanbdahdaaM
set_option linter.unusedVariables false
set_option linter.unusedSimpArgs false
theorem infoWI : (Try.prog.info? 3).map (fun i => (i.zero, i.size, i.bytes)) = some (some (.int .i64 0), 1, 8) := by kernel_rfl
theorem infoWR : (Try.prog.info? 22).map (fun i => (i.zero, i.size, i.bytes)) = some (some (.slice none 0 0), 1, 24) := by kernel_rfl
def catO (f : Int → Option (List (List Int))) : List Int → Option (List (List Int))
  | [] => some []
  | m :: t => (f m).bind fun a => (catO f t).bind fun b => some (a ++ b)
/-- the words that begin with l -/
def addF (k : Nat) (n L : Int) : Nat → List Int → Int → Option (List (List Int))
  | 0, _, _ => none
  | q + 1, l, before => if (l.length : Int) = L then some [l] else if l.length < 1000 then (impl_choices.f k n before).bind fun cs => catO (fun m => addF k n L q (l ++ [m]) m) cs else none
def addV (gl go gn ga : Nat) : Value := .func (.func 85) #[] #[.pointer (some ⟨gl, 0, none⟩), .pointer (some ⟨go, 0, none⟩), .pointer (some ⟨gn, 0, none⟩), .pointer (some ⟨ga, 0, none⟩)]
/-- what is captured, and the words so far -/
structure WOk (b gl go gn ga : Nat) (n L : Int) (W : World) (v : Value) (out : List (List Int)) : Prop where
  hl : W.heap[gl]? = some (.cells #[.int .i64 L] 3 (0, 0))
  hn : W.heap[gn]? = some (.cells #[.int .i64 n] 3 (0, 0))
  ha : W.heap[ga]? = some (.cells #[addV gl go gn ga] 72 (0, 0))
  ho : W.heap[go]? = some (.cells #[v] 60 (0, 0))
  hR : (Kd.slice 3 (Kd.int .i64)).R 22 W b (fun k => b ≤ k ∧ k ≠ go) v out
  bo : b ≤ go
theorem WOk.step {b gl go gn ga : Nat} {n L : Int} {W W' : World} {v : Value} {out : List (List Int)} (h : WOk b gl go gn ga n L W v out) (hb : Below W.heap.size W W') : WOk b gl go gn ga n L W' v out :=
  ⟨(hb.block _ (blk_lt h.hl)).trans h.hl, (hb.block _ (blk_lt h.hn)).trans h.hn, (hb.block _ (blk_lt h.ha)).trans h.ha, (hb.block _ (blk_lt h.ho)).trans h.ho, Kd.R_below h.hR hb, h.bo⟩
theorem WOk.cellA {b gl go gn ga : Nat} {n L : Int} {W : World} {v : Value} {out : List (List Int)} (h : WOk b gl go gn ga n L W v out) : W.cell? ⟨ga, 0, none⟩ = some (addV gl go gn ga) := (blk_cell h.ha 0).trans rfl
theorem WOk.base_le {b gl go gn ga : Nat} {n L : Int} {W : World} {v : Value} {out : List (List Int)} (h : WOk b gl go gn ga n L W v out) : b ≤ W.heap.size := by
  have := blk_lt h.ho; have := h.bo; omega
theorem WOk.fresh {b gl go gn ga : Nat} {n L : Int} {W : World} {v : Value} {out : List (List Int)} (h : WOk b gl go gn ga n L W v out) {k : Nat} (hk : W.heap.size ≤ k) : b ≤ k ∧ k ≠ go := by
  have := blk_lt h.ho; have := h.bo; omega
/-- The row was added to, and stored. -/
theorem WOk.put {b gl go gn ga : Nat} {n L : Int} {W w1 : World} {v v1 : Value} {out o2 : List (List Int)} (h : WOk b gl go gn ga n L W v out) (hg : W.grownBy w1 v.ownBlock) (hR : (Kd.slice 3 (Kd.int .i64)).R 22 w1 b (fun k => b ≤ k ∧ k ≠ go) v1 o2) : WOk b gl go gn ga n L (w1.setCell ⟨go, 0, none⟩ v1) v1 o2 := by
  have far : ∀ {g t : Nat} {cs : Array Value}, W.heap[g]? = some (.cells cs t (0, 0)) → 22 ≠ t → 60 ≠ t → (w1.setCell ⟨go, 0, none⟩ v1).heap[g]? = some (.cells cs t (0, 0)) := by
    intro g t cs hb h1 h2
    have h3 : g ≠ go := blk_ne hb h.ho (fun e => h2 e.symm)
    rw [Below.heap_setCell w1 ⟨go, 0, none⟩ v1 g h3]
    exact (hg.block g (blk_lt hb) (Kd.R_ne h.hR hb h1)).trans hb
  have hgo : w1.heap[go]? = some (.cells #[v] 60 (0, 0)) := (hg.block go (blk_lt h.ho) (Kd.R_ne h.hR h.ho (by decide))).trans h.ho
  refine ⟨far h.hl (by decide) (by decide), far h.hn (by decide) (by decide), far h.ha (by decide) (by decide), ?_, Kd.R_far (p := ⟨go, 0, none⟩) hR (fun k hk => hk.2) v1, h.bo⟩
  have := blk_set hgo 0 v1
  exact this
theorem below_own {B W w1 : World} {v : Value} (hb : Below B.heap.size B W) (ho : ∀ k, v.ownBlock = some k → B.heap.size ≤ k) (hg : W.grownBy w1 v.ownBlock) : Below B.heap.size B w1 := hb.grown hg hb.size ho
theorem hat_trans {a b c : Option Nat} {m p : Nat} (hm : m ≤ p) (h : a = b ∨ ∃ k, a = some k ∧ p ≤ k) (h2 : b = c ∨ ∃ k, b = some k ∧ m ≤ k) : a = c ∨ ∃ k, a = some k ∧ m ≤ k := by
  rcases h with h | ⟨k, h, hk⟩
  · rw [h]; exact h2
  · exact .inr ⟨k, h, Nat.le_trans hm hk⟩
theorem hat_grow {a b : Option Nat} {m p : Nat} (hm : m ≤ p) (h : a = b ∨ ∃ k, a = some k ∧ p ≤ k) : a = b ∨ ∃ k, a = some k ∧ m ≤ k := by
  rcases h with h | ⟨k, h, hk⟩
  · exact .inl h
  · exact .inr ⟨k, h, Nat.le_trans hm hk⟩
theorem one_row {W : World} {g t : Nat} {m : Int} (h : W.heap[g]? = some (.cells #[.int .i64 m] t (0, 0))) : ReadsRow ((Kd.int .i64).K W) (Kd.int .i64).sz W (some ⟨g, 0, none⟩) 1 [m] := by
  refine ⟨rfl, by omega, fun _ => ⟨⟨g, 0, none⟩, rfl, fun j p hj => ?_⟩⟩
  cases j with
  | zero =>
    obtain rfl : m = p := by simpa using hj
    refine ⟨[.int .i64 m], rfl, rfl, fun i u hu => ?_⟩
    cases i with
    | zero =>
      obtain rfl : Value.int .i64 m = u := by simpa using hu
      exact (blk_cell h 0).trans rfl
    | succ i => simp at hu
  | succ j => simp at hj
section
variable {P : Program} {ops : Array Oper} {Q : Exit → Act → World → Prop}
/-- A call of a function value whose function is known, in a region that draws its order. -/
theorem goesC_ {oi : Oper} {N : Option Tmp} {a : Act} {w : World} {K : Act → World → Prop} {f : FuncId} {fn : Func} {y : Operand} {as_ : Array Operand} {ts : Array TypeId} {cap : Array Value} (hf : P.funcs[f]? = some fn) (hname : (fn.name == "runtime.NumGoroutine") = false) (hb : fn.body.isSome = true) (args : Array Value)
    (hw : Region.wanted oi (yielded ops a.tmps) = true) (hN : oi.dst = N) (hop : oi.op = .call { callee := .value y, args := as_, argTypes := ts }) (hy : a.eval y = .func (.func f) #[] cap) (hargs : as_.map a.eval = args) (all : Array Value) (hall : #[] ++ args ++ cap = all)
    (h : Calls P f all w fun e w' => ∃ v, e = .returned v ∧ K (a.put N v) w') : if Region.wanted oi (yielded ops a.tmps) = true then Oper.wp P oi a w K Q else K (a.put N undef) w := by
  subst hall
  have he := enters_ hf hname hb (#[] ++ args ++ cap) w
  have hrun : (execOp a.eval oi).run P w = .ok (.enter f (#[] ++ args ++ cap)) w := by
    unfold execOp
    simp only [hop, resolve, Deferred.ofValue, hy, Sem.run_bind, Sem.run_pure, Result.andThen_ok]
    simp only [invoke, hargs]
    exact he
  rw [if_pos hw]
  unfold Oper.wp
  rw [hrun, Oper.upon_enter]
  refine h.mono fun e w'' hh => ?_
  obtain ⟨v, rfl, hk⟩ := hh
  subst hN
  exact hk
variable {rest : List Oper}
theorem goesC {oi : Oper} {a : Act} {w : World} (N : Option Tmp) (hd : oi.dst = N) (hg : oi.guard = none) {f : FuncId} {fn : Func} {y : Operand} {as_ : Array Operand} {ts : Array TypeId} {cap : Array Value} (hf : P.funcs[f]? = some fn) (hname : (fn.name == "runtime.NumGoroutine") = false) (hb : fn.body.isSome = true) (args : Array Value)
    (hop : oi.op = .call { callee := .value y, args := as_, argTypes := ts }) (hy : a.eval y = .func (.func f) #[] cap) (hargs : as_.map a.eval = args) (all : Array Value) (hall : #[] ++ args ++ cap = all)
    (h : Calls P f all w fun e w' => ∃ v, e = .returned v ∧ wpList P ops Q rest (a.put N v) w') : wpList P ops Q (oi :: rest) a w := by
  subst hall
  refine wpList_plain hg fun K hK => ?_
  have he := enters_ hf hname hb (#[] ++ args ++ cap) w
  have hrun : (execOp a.eval oi).run P w = .ok (.enter f (#[] ++ args ++ cap)) w := by
    unfold execOp
    simp only [hop, resolve, Deferred.ofValue, hy, Sem.run_bind, Sem.run_pure, Result.andThen_ok]
    simp only [invoke, hargs]
    exact he
  unfold Oper.wp
  rw [hrun, Oper.upon_enter]
  refine h.mono fun e w'' hh => ?_
  obtain ⟨v, rfl, hk⟩ := hh
  subst hd
  exact hK _ _ hk
end
theorem nil_body {fn : Func} : True := trivial
set_option maxHeartbeats 8000000 in
set_option maxRecDepth 100000 in
theorem add_calls (k : Nat) (n L : Int) (b gl go gn ga : Nat) : ∀ (q : Nat) (l : List Int) (before : Int) (exts : List (List Int)) (A : Option Addr) (c : Nat) (W : World) (v : Value) (out : List (List Int)), WOk b gl go gn ga n L W v out → (Kd.int .i64).R 3 W b (fun k => b ≤ k ∧ k ≠ go) (.slice A l.length c) l → addF k n L q l before = some exts → out.length + exts.length ≤ 1000000000000 →
    Calls Try.prog 85 #[.slice A l.length c, .int .i64 before, .pointer (some ⟨gl, 0, none⟩), .pointer (some ⟨go, 0, none⟩), .pointer (some ⟨gn, 0, none⟩), .pointer (some ⟨ga, 0, none⟩)] W fun e W' => ∃ v', e = .returned (.tuple #[]) ∧ WOk b gl go gn ga n L W' v' (out ++ exts) ∧ KeepBut W W' go v.ownBlock ∧ (v'.ownBlock = v.ownBlock ∨ ∃ k, v'.ownBlock = some k ∧ W.heap.size ≤ k) ∧ Below b W W' := by
  intro q
  induction q with
  | zero => intro l before exts A c W v out _ _ h; exact absurd h (by simp [addF])
  | succ q ih =>
    intro l before exts A c W v out hO hw h hbd
    rw [addF] at h
    have HO := Aside0.mk hO
    have HWR := Aside0.mk hw
    have HLE := Aside0.mk (Kd.R_reads' hw).2.1
    have HBD := Aside0.mk hbd
    have hcl := (blk_cell hO.hl 0).trans rfl
    have hcn := (blk_cell hO.hn 0).trans rfl
    have hco := (blk_cell hO.ho 0).trans rfl
    have hfo := blk_frozen hO.ho 0
    clear hO hw hbd
    by_cases hL : (l.length : Int) = L
    · rw [if_pos hL] at h
      obtain rfl := Option.some.inj h
      have hl1 : ((l.length : Int) == L) = true := beq_iff_eq.2 hL
      clear h hL
      go_enter Try.func85, Try.ntmps85
      go_wp2_with (first
        | ((with_reducible refine gate_builtin (b := .append) (xs := #[.tmp 14, .tmp 16]) rfl ?_); at_builtin; refine Kd.R_append (Kd.slice 3 (Kd.int .i64)) (w0 := W) b rfl (.tmp 14) (.tmp 16) 60 22 (.slice none 0 0) 24 rfl Try.underlying60 infoWR rfl (by decide) (by omega) v out l [.slice A l.length c] (fun k_ => b ≤ k_ ∧ k_ ≠ go) (fun k_ => (b ≤ k_ ∧ k_ ≠ go) ∧ some k_ ≠ v.ownBlock) rfl rfl ?aP (fun _ hk => hk) ?aF ?aO ?aB ?aS ?aL ?_; (case aP => exact ⟨_, rfl, Kd.R_apart' HWR.out (Kd.R_typed HO.out.hR) (by decide)⟩); (case aF => exact (fun k_ hk_ => HO.out.fresh hk_)); (case aO => exact HO.out.hR); (case aB => exact Below.refl _ _); (case aS => exact HO.out.base_le); (case aL => have := HBD.out; simp only [List.length_cons, List.length_nil] at this; omega); intro v1 w1 ho hb hg hat; obtain ⟨A9, c9, ev_⟩ := Kd.R_slice ho; subst ev_; have HO1 := Aside0.mk ho; have HB1 := Aside0.mk hb; have HG := Aside0.mk hg; have HAT := Aside0.mk hat; have hco1 : w1.cell? ⟨go, 0, none⟩ = some v := (blk_cell ((hg.block go (blk_lt HO.out.ho) (Kd.R_ne HO.out.hR HO.out.ho (by decide))).trans HO.out.ho) 0).trans rfl; have hfo1 : w1.frozen? ⟨go, 0, none⟩ = false := blk_frozen ((hg.block go (blk_lt HO.out.ho) (Kd.R_ne HO.out.hR HO.out.ho (by decide))).trans HO.out.ho) 0; clear ho hb hg hat))
      refine ⟨rfl, .tuple #[], by simp [results, show Try.f85.results = #[] from rfl], ?_⟩
      have e1 : (out ++ [l]).length = out.length + 1 := by simp
      refine ⟨.slice A9 (out.length + 1) c9, rfl, ?_, ?_, ?_, ?_⟩
      · have h2 := HO1.out
        rw [e1] at h2
        exact HO.out.put HG.out h2
      · exact (KeepBut.of_grown HG.out go).set_ 0 _
      · have h2 := HAT.out
        rw [e1] at h2
        exact h2
      · exact HB1.out.setCell HO.out.bo _
    · rw [if_neg hL] at h
      by_cases hln : l.length < 1000
      case neg => rw [if_neg hln] at h; cases h
      rw [if_pos hln] at h
      have HLN := Aside0.mk hln
      have hl1 : ((l.length : Int) == L) = false := beq_eq_false_iff_ne.2 hL
      obtain ⟨cs, hcs, hcat⟩ := Option.bind_eq_some_iff.1 h
      have HCH := Aside0.mk hcs
      have HCT := Aside0.mk hcat
      have HCL : Aside0 (slices_Clone_int_int.f l = some l) := ⟨by unfold slices_Clone_int_int.f; rw [if_pos (by omega)]⟩
      clear h hcs hcat hln hL hco hfo
      go_enter Try.func85, Try.ntmps85
      go_wp2_with (first | ((with_reducible refine gate_callee (f := 86) rfl ?_); (with_reducible refine gate_dst (N := 20) rfl ?_); refine goesL_ (some 20) rfl rfl Try.func86 (by kernel_rfl) rfl #[.int .i64 n, .int .i64 before] rfl (by (try simp only [List.map_toArray, List.map_cons, List.map_nil]); first | done | rfl) ?_; (with_reducible refine (impl_choices.calls k n before cs W HCH.out).mono ?_); rintro e_ w1 ⟨vv0_, rfl, ho0_, hb⟩; refine ⟨_, rfl, ?_⟩; obtain ⟨Ac0, cc0, ev_⟩ := Kd.R_slice ho0_; subst ev_; have HCS := Aside0.mk (Kd.R_lower (Kd.R_mono (Kd.R_bound ho0_) (ok' := fun k_ => b ≤ k_ ∧ k_ ≠ go) (fun k_ hk_ => HO.out.fresh hk_.2.1)) HO.out.base_le); have HCM := Aside0.mk (Kd.C_max (Kd.R_reads' ho0_).2.2); have HB1 := Aside0.mk hb; clear ho0_ hb))
      have HM0 := Aside0.mk (True.intro)
      go_loopg [22] cs.length (fun kq v22 w' => ∃ (x : Int) (j : Nat) (vc : Value) (oc rest : List (List Int)), v22 = .int .i64 x ∧ Aside0 (x = (j : Int) ∧ j ≤ cs.length ∧ cs.length - j ≤ kq ∧ catO (fun m => addF k n L q (l ++ [m]) m) (cs.drop j) = some rest ∧ oc ++ rest = out ++ exts) ∧ Aside0 (WOk b gl go gn ga n L w' vc oc) ∧ Aside0 ((Kd.int .i64).R 3 w' b (fun k => b ≤ k ∧ k ≠ go) (.slice A l.length c) l) ∧ Aside0 ((Kd.int .i64).R 3 w' b (fun k => b ≤ k ∧ k ≠ go) (.slice Ac0 cs.length cc0) cs) ∧ Aside0 (KeepBut W w' go v.ownBlock) ∧ Aside0 (vc.ownBlock = v.ownBlock ∨ ∃ k, vc.ownBlock = some k ∧ W.heap.size ≤ k) ∧ Aside0 (Below b W w'))
      case atStart => exact ⟨0, 0, v, out, exts, by first | rfl | (simp; done), ⟨rfl, by omega, by omega, HCT.out, rfl⟩, ⟨HO.out.step HB1.out⟩, ⟨Kd.R_below HWR.out HB1.out⟩, HCS, ⟨KeepBut.of_below HB1.out go _⟩, ⟨.inl rfl⟩, ⟨Below.mono HB1.out HO.out.base_le⟩⟩
      case round =>
        clear HO HWR HCS HB1 HCH HCT hcl hcn hl1
        clear HM0
        obtain ⟨x, j, vc, oc, rest, rfl, HI, HO, HWR, HCS, HKB, HAT, HBB⟩ := hrel
        by_cases hx : x < (cs.length : Int)
        · have d0 := decide_eq_true hx
          have hj : j < cs.length := by have := HI.out.1; omega
          have hx0 : 0 ≤ x := by have := HI.out.1; omega
          obtain ⟨ad, eA, hxc⟩ := Kd.at_int (Kd.R_reads' HCS.out).2.2 x hx0 hx
          cases eA
          replace hx0 := eq_true hx0
          replace hx := eq_true hx
          obtain ⟨m, hm⟩ : ∃ m, m = rd cs x := ⟨_, rfl⟩
          rw [← hm] at hxc
          obtain ⟨ex1, ex2, hx1, hx2, hx3⟩ : ∃ ex1 ex2, addF k n L q (l ++ [m]) m = some ex1 ∧ catO (fun m => addF k n L q (l ++ [m]) m) (cs.drop (j + 1)) = some ex2 ∧ rest = ex1 ++ ex2 := by
            have h1 := HI.out.2.2.2.1
            rw [List.drop_eq_getElem_cons hj, catO] at h1
            obtain ⟨ex1, h2, h3⟩ := Option.bind_eq_some_iff.1 h1
            obtain ⟨ex2, h4, h5⟩ := Option.bind_eq_some_iff.1 h3
            have h6 : m = cs[j] := by rw [hm, HI.out.1]; simp [rd, hj]
            rw [← h6] at h2
            exact ⟨ex1, ex2, h2, h4, (Option.some.inj h5).symm⟩
          have HB1 := Aside0.mk (show oc.length + ex1.length ≤ 1000000000000 from by have h1 := HI.out.2.2.2.2; have h2 := congrArg List.length h1; have h3 := HBD.out; rw [hx3] at h2; simp only [List.length_append] at h2; omega)
          have HX1 := Aside0.mk hx1
          have HX2 := Aside0.mk hx2
          have HX3 := Aside0.mk hx3
          have HJ := Aside0.mk hj
          clear hx1 hx2 hx3 hj hm
          go_wp2
          have hb0 := Aside0.mk (below_drew1 (Below.refl wr.heap.size wr))
          have hcell := (HO.out.step hb0.out).cellA
          refine start_ (n := 8) (S := fun w' => w'.cell? ⟨ga, 0, none⟩ = some (addV gl go gn ga)) (ds := []) #[false, false, false, false, false, false, false, false] (by kernel_rfl) rfl rfl hcell (fun hHeld => ?_)
          clear hcell hxc
          generalize wr.drew = w2 at hb0 hHeld ⊢
          refine take_ (i := 0) (N := some 26) (v := ?_) (a' := ?_) #[true, false, false, false, false, false, false, false] rfl rfl (by kernel_rfl) (fun _ _ _ h => h) (Or.inl ⟨by rfl, ?_⟩) hHeld ?_ ?_
          rotate_left
          · intro w' s0
            go_simp
            first | with_reducible rfl | rfl
          rotate_left
          · simp only [Act.put, List.setIfInBounds_toArray, List.set_cons_zero, List.set_cons_succ, i64_w, i32_w]
            rfl
          refine pure_ (i := 1) (N := some 27) (v := ?_) (a' := ?_) #[true, true, false, false, false, false, false, false] rfl rfl (by kernel_rfl) (fun _ _ _ h => h) (Or.inl ⟨by rfl, ?_⟩) ?_ ?_
          rotate_left
          · intro w'
            go_simp
            first | with_reducible rfl | rfl
          rotate_left
          · simp only [Act.put, List.setIfInBounds_toArray, List.set_cons_zero, List.set_cons_succ, i64_w, i32_w]
            rfl
          refine pure_ (i := 3) (N := some 29) (v := ?_) (a' := ?_) #[true, true, false, true, false, false, false, false] rfl rfl (by kernel_rfl) (fun _ _ _ h => h) (Or.inl ⟨by rfl, ?_⟩) ?_ ?_
          rotate_left
          · intro w'
            go_simp
            first | with_reducible rfl | rfl
          rotate_left
          · simp only [Act.put, List.setIfInBounds_toArray, List.set_cons_zero, List.set_cons_succ, i64_w, i32_w]
            rfl
          refine pure_ (i := 6) (N := some 32) (v := ?_) (a' := ?_) #[true, true, false, true, false, false, true, false] rfl rfl (by kernel_rfl) (fun _ _ _ h => h) (Or.inl ⟨by rfl, ?_⟩) ?_ ?_
          rotate_left
          · intro w'
            go_simp
            first | with_reducible rfl | rfl
          rotate_left
          · simp only [Act.put, List.setIfInBounds_toArray, List.set_cons_zero, List.set_cons_succ, i64_w, i32_w]
            rfl
          refine two_ (i := 2) (j := 4) (Ni := some 28) (Nj := some 30) #[true, true, true, true, false, false, true, false] #[true, true, false, true, true, false, true, false] rfl rfl rfl rfl (by kernel_rfl) (by decide) (by decide) (fun K hK => ?_) (fun K hK => ?_)
          · have HWR0 := HWR
            clear HWR0
            refine goes_ Try.func39 (by kernel_rfl) rfl #[.slice A l.length c] (by rfl) rfl rfl (by (try simp only [List.map_toArray, List.map_cons, List.map_nil]); first | done | rfl) ?_
            with_reducible refine (slices_Clone_int_int.calls A c l l _ ?sd0 ?sd1 ?sd2).mono ?_
            (case sd0 => exact (Kd.C_below (Kd.R_reads' HWR.out).2.2 hb0.out))
            (case sd1 => exact HLE.out)
            (case sd2 => exact HCL.out)
            rintro e_ w3 ⟨vc_, rfl, hoc_, hb⟩
            refine ⟨_, rfl, ?_⟩
            have HCRb := Aside0.mk (fun k_ (hk_ : Value.ownBlock vc_ = some k_) => Nat.le_trans hb0.out.size (Kd.R_base hoc_ k_ hk_))
            have HCR := Aside0.mk (Kd.R_lower (Kd.R_mono (Kd.R_bound hoc_) (ok' := fun k_ => b ≤ k_ ∧ k_ ≠ go) (fun k_ hk_ => HO.out.fresh (Nat.le_trans hb0.out.size hk_.2.1))) (Nat.le_trans HO.out.base_le hb0.out.size))
            have n_ := Aside0.mk (below_step hb0.out hb)
            clear hb0
            have hb0 := n_
            clear n_ hoc_ hb
            obtain ⟨Ac, cc, ev_⟩ := Kd.R_slice HCR.out
            subst ev_
            have hS_ := (HO.out.step hb0.out).cellA
            refine hK.out _ _ hS_ (fun hHeld => ?_)
            clear hK K hS_
            refine norm_ (a' := ?_) ?_ ?_
            rotate_left
            · show Act.put _ (some 28) _ = _
              simp only [Act.put, List.setIfInBounds_toArray, List.set_cons_zero, List.set_cons_succ, i64_w, i32_w]
              rfl
            have hA8 := below_alloc (Below.refl w3.heap.size w3) (.cells #[.int .i64 m] 3)
            refine one_ (i := 4) (N := some 30) #[true, true, true, true, true, false, true, false] rfl rfl (by kernel_rfl) (by decide) (fun K hK => ?_)
            refine value_ (w1 := w3.alloc (.cells #[.int .i64 m] 3)) (v := .slice (some ⟨w3.heap.size, 0, none⟩) 1 1) (by rfl) rfl ?_ ?_
            · first | (go_simp; done) | (go_simp; rfl)
            have hS_ := ((HO.out.step hb0.out).step hA8).cellA
            refine hK.out _ _ hS_ (fun hHeld => ?_)
            clear hK K hS_ hA8
            refine norm_ (a' := ?_) ?_ ?_
            rotate_left
            · show Act.put _ (some 30) _ = _
              simp only [Act.put, List.setIfInBounds_toArray, List.set_cons_zero, List.set_cons_succ, i64_w, i32_w]
              rfl
            refine one_ (i := 5) (N := some 31) #[true, true, true, true, true, true, true, false] rfl rfl (by kernel_rfl) (by decide) (fun K hK => ?_)
            refine Kd.R_append_step (Kd.int .i64) (w0 := w3) b (by rfl) (.tmp 28) (.tmp 30) 22 3 (.int .i64 0) 8 rfl Try.underlying22 infoWI rfl (by decide) (by omega) (.slice Ac l.length cc) l m [.int .i64 m] (fun k_ => b ≤ k_ ∧ k_ ≠ go) (fun _ => False) rfl rfl rfl (fun _ hk => hk.elim) (fun k_ hk_ => HO.out.fresh (Nat.le_trans hb0.out.size hk_)) HCR.out (Below.refl _ _) (Nat.le_trans HO.out.base_le hb0.out.size) (by have := HLN.out; omega) ?_
            intro v5 w5 ho _ hg hat
            have n_ := Aside0.mk (below_own hb0.out HCRb.out hg)
            clear hb0
            have hb0 := n_
            clear n_
            obtain ⟨A5, c5, ev_⟩ := Kd.R_slice ho
            subst ev_
            have H5 := Aside0.mk ho
            clear ho hg hat
            have hS_ := (HO.out.step hb0.out).cellA
            refine hK.out _ _ hS_ (fun hHeld => ?_)
            clear hK K hS_
            have hln_ : (l ++ [m]).length = l.length + 1 := by simp
            clear hln_
            refine norm_ (a' := ?_) ?_ ?_
            rotate_left
            · show Act.put _ (some 31) _ = _
              simp only [Act.put, List.setIfInBounds_toArray, List.set_cons_zero, List.set_cons_succ, i64_w, i32_w]
              rfl
            refine one_ (i := 7) (N := some 33) #[true, true, true, true, true, true, true, true] rfl rfl (by kernel_rfl) (by decide) (fun K hK => ?_)
            refine goesC_ Try.func85 (by kernel_rfl) rfl #[.slice A5 (l ++ [m]).length c5, .int .i64 m] (by rfl) rfl rfl rfl (by (try simp only [List.map_toArray, List.map_cons, List.map_nil]); first | done | rfl) #[.slice A5 (l ++ [m]).length c5, .int .i64 m, .pointer (some ⟨gl, 0, none⟩), .pointer (some ⟨go, 0, none⟩), .pointer (some ⟨gn, 0, none⟩), .pointer (some ⟨ga, 0, none⟩)] (by rfl) ?_
            with_reducible refine (ih (l ++ [m]) m ex1 A5 c5 _ vc oc (HO.out.step hb0.out) H5.out HX1.out HB1.out).mono ?_
            rintro e_ w6 ⟨v6, rfl, hW6, hk6, hat6, hb6⟩
            refine ⟨_, rfl, ?_⟩
            have HO6 := Aside0.mk hW6
            have HWR6 := Aside0.mk (Kd.R_step (Kd.R_below (Kd.R_apart' HWR.out (Kd.R_typed HO.out.hR) (by decide)) hb0.out) (w1 := w6) (fun k_ h1_ h2_ => hk6.2 k_ h2_ h1_.1.2 h1_.2))
            have HCS6 := Aside0.mk (Kd.R_step (Kd.R_below (Kd.R_apart' HCS.out (Kd.R_typed HO.out.hR) (by decide)) hb0.out) (w1 := w6) (fun k_ h1_ h2_ => hk6.2 k_ h2_ h1_.1.2 h1_.2))
            have HKB6 := Aside0.mk (HKB.out.trans ((KeepBut.of_below hb0.out go vc.ownBlock).trans hk6 (.inl rfl)) HAT.out)
            have HAT6 := Aside0.mk (hat_trans (HKB.out.1) (hat_grow hb0.out.size hat6) HAT.out)
            have HB6 := Aside0.mk (HBB.out.trans ((Below.mono hb0.out HO.out.base_le).trans hb6))
            clear hW6 hk6 hat6 hb6
            refine hK.out _ _ (HO6.out.cellA) (fun hHeld => ?_)
            clear hK K
            refine norm_ (a' := ?_) ?_ ?_
            rotate_left
            · show Act.put _ (some 33) _ = _
              simp only [Act.put, List.setIfInBounds_toArray, List.set_cons_zero, List.set_cons_succ, i64_w, i32_w]
              rfl
            refine done_ (by kernel_rfl) ?_
            go_wp2
            go_roundg (cs.length - (j + 1))
            case measure => have h1 := HI.out; have h2 := HJ.out; omega
            case rel =>
              refine ⟨wrap64 (x + 1), j + 1, v6, oc ++ ex1, ex2, by first | rfl | (simp; done) | (simp [*]; done), ⟨?_, ?_, ?_, HX2.out, ?_⟩, HO6, ⟨Kd.R_mono HWR6.out (fun _ h_ => h_.1)⟩, ⟨Kd.R_mono HCS6.out (fun _ h_ => h_.1)⟩, HKB6, HAT6, HB6⟩
              · have h1 := HI.out; have h2 := HJ.out; have h3 := HCM.out; unfold wrap64; omega
              · have h2 := HJ.out; omega
              · omega
              · rw [List.append_assoc, ← HX3.out]; exact HI.out.2.2.2.2
          · have HWR0 := HWR
            clear HWR0
            have hA8 := below_alloc (Below.refl w2.heap.size w2) (.cells #[.int .i64 m] 3)
            refine value_ (w1 := w2.alloc (.cells #[.int .i64 m] 3)) (v := .slice (some ⟨w2.heap.size, 0, none⟩) 1 1) (by rfl) rfl ?_ ?_
            · first | (go_simp; done) | (go_simp; rfl)
            obtain ⟨gm, hgm⟩ : ∃ g_, g_ = w2.heap.size := ⟨_, rfl⟩
            rw [← hgm]
            have hblk : (w2.alloc (.cells #[.int .i64 m] 3)).heap[gm]? = some (.cells #[.int .i64 m] 3 (0, 0)) := by rw [hgm]; exact blk_new _ _
            obtain ⟨w3, hw3⟩ : ∃ w_, w_ = w2.alloc (.cells #[.int .i64 m] 3) := ⟨_, rfl⟩
            rw [← hw3] at hA8 hblk ⊢
            have n_ := Aside0.mk (below_step hb0.out hA8)
            clear hb0
            have hb0 := n_
            clear n_ hA8 hw3
            have hS_ := (HO.out.step hb0.out).cellA
            refine hK.out _ _ hS_ (fun hHeld => ?_)
            clear hK K hS_
            refine norm_ (a' := ?_) ?_ ?_
            rotate_left
            · show Act.put _ (some 30) _ = _
              simp only [Act.put, List.setIfInBounds_toArray, List.set_cons_zero, List.set_cons_succ, i64_w, i32_w]
              rfl
            refine one_ (i := 2) (N := some 28) #[true, true, true, true, true, false, true, false] rfl rfl (by kernel_rfl) (by decide) (fun K hK => ?_)
            have hb3 := hb0.out
            refine goes_ Try.func39 (by kernel_rfl) rfl #[.slice A l.length c] (by rfl) rfl rfl (by (try simp only [List.map_toArray, List.map_cons, List.map_nil]); first | done | rfl) ?_
            with_reducible refine (slices_Clone_int_int.calls A c l l _ ?sd0 ?sd1 ?sd2).mono ?_
            (case sd0 => exact (Kd.C_below (Kd.R_reads' HWR.out).2.2 hb3))
            (case sd1 => exact HLE.out)
            (case sd2 => exact HCL.out)
            rintro e_ w4 ⟨vc_, rfl, hoc_, hb⟩
            refine ⟨_, rfl, ?_⟩
            have hblk4 := (hb.block gm (blk_lt hblk)).trans hblk
            have HCRb := Aside0.mk (fun k_ (hk_ : Value.ownBlock vc_ = some k_) => Nat.le_trans hb0.out.size (Kd.R_base hoc_ k_ hk_))
            have HCR := Aside0.mk (Kd.R_lower (Kd.R_mono (Kd.R_bound hoc_) (ok' := fun k_ => b ≤ k_ ∧ k_ ≠ go) (fun k_ hk_ => HO.out.fresh (Nat.le_trans hb0.out.size hk_.2.1))) (Nat.le_trans HO.out.base_le hb0.out.size))
            have n_ := Aside0.mk (below_step hb0.out hb)
            clear hb0
            have hb0 := n_
            clear n_ hoc_ hb
            obtain ⟨Ac, cc, ev_⟩ := Kd.R_slice HCR.out
            subst ev_
            have hS_ := (HO.out.step hb0.out).cellA
            refine hK.out _ _ hS_ (fun hHeld => ?_)
            clear hK K hS_
            refine norm_ (a' := ?_) ?_ ?_
            rotate_left
            · show Act.put _ (some 28) _ = _
              simp only [Act.put, List.setIfInBounds_toArray, List.set_cons_zero, List.set_cons_succ, i64_w, i32_w]
              rfl
            refine one_ (i := 5) (N := some 31) #[true, true, true, true, true, true, true, false] rfl rfl (by kernel_rfl) (by decide) (fun K hK => ?_)
            refine Kd.R_append_rows_step (Kd.int .i64) (Rr := (Kd.int .i64).K w4) (w0 := w4) b (by rfl) (.tmp 28) (.tmp 30) 22 3 (.int .i64 0) 8 rfl Try.underlying22 infoWI rfl (by decide) (by omega) (.slice Ac l.length cc) l [m] (some ⟨gm, 0, none⟩) 1 1 (fun k_ => b ≤ k_ ∧ k_ ≠ go) (fun _ => False) rfl rfl HCR.out (one_row hblk4) (fun x_ cs_ h_ => h_) (fun _ hk => hk.elim) (fun k_ hk_ => HO.out.fresh (Nat.le_trans hb0.out.size hk_)) (Below.refl _ _) (Nat.le_trans HO.out.base_le hb0.out.size) (by have := HLN.out; omega) ?_
            intro v5 w5 ho _ hg hat
            have n_ := Aside0.mk (below_own hb0.out HCRb.out hg)
            clear hb0
            have hb0 := n_
            clear n_ hblk hblk4 hb3
            obtain ⟨A5, c5, ev_⟩ := Kd.R_slice ho
            subst ev_
            have H5 := Aside0.mk ho
            clear ho hg hat
            have hS_ := (HO.out.step hb0.out).cellA
            refine hK.out _ _ hS_ (fun hHeld => ?_)
            clear hK K hS_
            refine norm_ (a' := ?_) ?_ ?_
            rotate_left
            · show Act.put _ (some 31) _ = _
              simp only [Act.put, List.setIfInBounds_toArray, List.set_cons_zero, List.set_cons_succ, i64_w, i32_w]
              rfl
            refine one_ (i := 7) (N := some 33) #[true, true, true, true, true, true, true, true] rfl rfl (by kernel_rfl) (by decide) (fun K hK => ?_)
            refine goesC_ Try.func85 (by kernel_rfl) rfl #[.slice A5 (l ++ [m]).length c5, .int .i64 m] (by rfl) rfl rfl rfl (by (try simp only [List.map_toArray, List.map_cons, List.map_nil]); first | done | rfl) #[.slice A5 (l ++ [m]).length c5, .int .i64 m, .pointer (some ⟨gl, 0, none⟩), .pointer (some ⟨go, 0, none⟩), .pointer (some ⟨gn, 0, none⟩), .pointer (some ⟨ga, 0, none⟩)] (by rfl) ?_
            with_reducible refine (ih (l ++ [m]) m ex1 A5 c5 _ vc oc (HO.out.step hb0.out) H5.out HX1.out HB1.out).mono ?_
            rintro e_ w6 ⟨v6, rfl, hW6, hk6, hat6, hb6⟩
            refine ⟨_, rfl, ?_⟩
            have HO6 := Aside0.mk hW6
            have HWR6 := Aside0.mk (Kd.R_step (Kd.R_below (Kd.R_apart' HWR.out (Kd.R_typed HO.out.hR) (by decide)) hb0.out) (w1 := w6) (fun k_ h1_ h2_ => hk6.2 k_ h2_ h1_.1.2 h1_.2))
            have HCS6 := Aside0.mk (Kd.R_step (Kd.R_below (Kd.R_apart' HCS.out (Kd.R_typed HO.out.hR) (by decide)) hb0.out) (w1 := w6) (fun k_ h1_ h2_ => hk6.2 k_ h2_ h1_.1.2 h1_.2))
            have HKB6 := Aside0.mk (HKB.out.trans ((KeepBut.of_below hb0.out go vc.ownBlock).trans hk6 (.inl rfl)) HAT.out)
            have HAT6 := Aside0.mk (hat_trans (HKB.out.1) (hat_grow hb0.out.size hat6) HAT.out)
            have HB6 := Aside0.mk (HBB.out.trans ((Below.mono hb0.out HO.out.base_le).trans hb6))
            clear hW6 hk6 hat6 hb6
            refine hK.out _ _ (HO6.out.cellA) (fun hHeld => ?_)
            clear hK K
            refine norm_ (a' := ?_) ?_ ?_
            rotate_left
            · show Act.put _ (some 33) _ = _
              simp only [Act.put, List.setIfInBounds_toArray, List.set_cons_zero, List.set_cons_succ, i64_w, i32_w]
              rfl
            refine done_ (by kernel_rfl) ?_
            go_wp2
            go_roundg (cs.length - (j + 1))
            case measure => have h1 := HI.out; have h2 := HJ.out; omega
            case rel =>
              refine ⟨wrap64 (x + 1), j + 1, v6, oc ++ ex1, ex2, by first | rfl | (simp; done) | (simp [*]; done), ⟨?_, ?_, ?_, HX2.out, ?_⟩, HO6, ⟨Kd.R_mono HWR6.out (fun _ h_ => h_.1)⟩, ⟨Kd.R_mono HCS6.out (fun _ h_ => h_.1)⟩, HKB6, HAT6, HB6⟩
              · have h1 := HI.out; have h2 := HJ.out; have h3 := HCM.out; unfold wrap64; omega
              · have h2 := HJ.out; omega
              · omega
              · rw [List.append_assoc, ← HX3.out]; exact HI.out.2.2.2.2
        · have d0 := decide_eq_false hx
          have hr : oc = out ++ exts := by
            have h1 := HI.out.2.2.2.1
            rw [List.drop_eq_nil_of_le (by have := HI.out.1; omega), catO] at h1
            have h2 := HI.out.2.2.2.2
            rw [← Option.some.inj h1, List.append_nil] at h2
            exact h2
          subst hr
          clear hx
          go_wp2
          refine ⟨rfl, .tuple #[], by simp [results, show Try.f85.results = #[] from rfl], ?_⟩
          exact ⟨vc, rfl, HO.out, HKB.out, HAT.out, HBB.out⟩
def impl_wordsOf.f (k : Nat) (a0 : Int) (a1 : Int) : Option (List (List Int)) := (addF k a0 a1 k [] 0).bind fun r => if r.length < 1000000000000 then some r else none
set_option maxHeartbeats 8000000 in
set_option maxRecDepth 100000 in
theorem impl_wordsOf.calls (k : Nat) (a0 : Int) (a1 : Int) (r : List (List Int)) (w : World) (h : impl_wordsOf.f k a0 a1 = some r) :
    Calls Try.prog 58 #[.int .i64 a0, .int .i64 a1] w fun e w' => ∃ v0_ : Value, e = .returned (v0_) ∧ (Kd.slice 3 (Kd.int .i64)).R 22 w' w.heap.size (fun _ => True) v0_ r ∧ Below w.heap.size w w' := by
  unfold impl_wordsOf.f at h
  obtain ⟨r0, h1, h2⟩ := Option.bind_eq_some_iff.1 h
  clear h
  by_cases hr : r0.length < 1000000000000
  case neg => rw [if_neg hr] at h2; cases h2
  rw [if_pos hr] at h2
  obtain rfl := Option.some.inj h2
  have HF := Aside0.mk h1
  have HN := Aside0.mk hr
  clear h1 h2 hr
  have HM := Aside0.mk (MS.start w)
  go_enter Try.func58, Try.ntmps58
  go_wp2_with (first
    | ((with_reducible refine gate_dst (N := 2) rfl ?_); refine box_event ?hg (N := 2) ?hd (cs := #[.int .i64 a0]) (t := 3) ?hr ?_; (case hd => rfl); (case hg => rfl); (case hr => first | (go_simp; done) | (go_simp; rfl)); intro gn hg w1 hbox hb; have n_ := Aside0.mk (HM.out.addBox hb hbox hg); clear HM; have HM := n_; clear n_; clear hb hbox hg)
    | ((with_reducible refine gate_dst (N := 3) rfl ?_); refine box_event ?hg (N := 3) ?hd (cs := #[.int .i64 a1]) (t := 3) ?hr ?_; (case hd => rfl); (case hg => rfl); (case hr => first | (go_simp; done) | (go_simp; rfl)); intro gl hg w2 hbox hb; have n_ := Aside0.mk (HM.out.addBox hb hbox hg); clear HM; have HM := n_; clear n_; clear hb hbox hg)
    | ((with_reducible refine gate_dst (N := 7) rfl ?_); refine Kd.R_lit (Kd.slice 3 (Kd.int .i64)) _ 22 ?hg (N := 7) ?hd (xs := ([] : List (List Int))) (inner := []) (ok := fun _ => True) (okp := fun _ => True) ?hr ?hp (fun _ hk => hk) trivial (Below.refl _ _) (Nat.le_refl _) (by simp) ?_; (case hd => rfl); (case hg => rfl); (case hr => first | (go_simp; done) | (go_simp; rfl)); (case hp => exact (Reps.none _ _)); intro v0 w3 ho hb hg_ hnew_; have HRo := Aside0.mk (Kd.R_lower ho HM.out.size); have n_ := Aside0.mk (HM.out.step hb); clear HM; have HM := n_; clear n_; clear hb ho hg_ hnew_; obtain ⟨A7, c7, ev_⟩ := Kd.R_slice HRo.out; subst ev_)
    | ((with_reducible refine gate_dst (N := 5) rfl ?_); refine box_event ?hg (N := 5) ?hd (cs := #[.slice none 0 0]) (t := 60) ?hr ?_; (case hd => rfl); (case hg => rfl); (case hr => first | (go_simp; done) | (go_simp; rfl)); intro go hg w4 hbox hb; have n_ := Aside0.mk (HM.out.addBox hb hbox hg); clear HM; have HM := n_; clear n_; have n_ := Aside0.mk (Kd.R_mono (Kd.R_below (Kd.R_bound HRo.out) hb) (ok' := fun k_ => w.heap.size ≤ k_ ∧ k_ ≠ go) (fun k_ hk_ => ⟨hk_.2.1, by have := hk_.2.2.1; omega⟩)); clear HRo; have HRo := n_; clear n_; clear hb hbox hg; have hc5 : w4.cell? ⟨go, 0, none⟩ = some (.slice none 0 0) := (blk_cell (HM.out.box 0 rfl) 0).trans rfl; have hf5 := blk_frozen (HM.out.box 0 rfl) 0)
    | ((with_reducible refine gate_store (t := 60) (p := 5) rfl ?_); refine store_event (t := 60) (p := 5) (v := ?vo1) (w1 := (w4.setCell ⟨go, 0, none⟩ (.slice A7 0 c7))) ?hg ?ho ?hn ?hr ?_; (case ho => rfl); (case hg => rfl); (case hn => rfl); (case hr => first | (go_simp; done) | (go_simp; rfl)); intro w5 hw; have n_ : Aside0 (MS w w5 [.box go 60 #[.slice A7 0 c7], .box gl 3 #[.int .i64 a1], .box gn 3 #[.int .i64 a0]]) := ⟨by rw [hw]; exact HM.out.setBox 0 rfl _ _ rfl⟩; have n2_ : Aside0 ((Kd.slice 3 (Kd.int .i64)).R 22 w5 w.heap.size (fun k_ => w.heap.size ≤ k_ ∧ k_ ≠ go) (.slice A7 0 c7) []) := ⟨by rw [hw]; exact Kd.R_far (p := ⟨go, 0, none⟩) HRo.out (fun k_ hk_ => hk_.2) _⟩; clear HM hw hc5 hf5 HRo; have HM := n_; have HRo := n2_; clear n_ n2_)
    | ((with_reducible refine gate_dst (N := 6) rfl ?_); refine box_event ?hg (N := 6) ?hd (cs := #[.nilFunc]) (t := 72) ?hr ?_; (case hd => rfl); (case hg => rfl); (case hr => first | (go_simp; done) | (go_simp; rfl)); intro ga hg w6 hbox hb; have n_ := Aside0.mk (HM.out.addBox hb hbox hg); clear HM; have HM := n_; clear n_; have n_ := Aside0.mk (Kd.R_below HRo.out hb); clear HRo; have HRo := n_; clear n_; clear hb hbox hg; have hc6 : w6.cell? ⟨ga, 0, none⟩ = some .nilFunc := (blk_cell (HM.out.box 0 rfl) 0).trans rfl; have hf6 := blk_frozen (HM.out.box 0 rfl) 0)
    | ((with_reducible refine gate_store (t := 72) (p := 6) rfl ?_); refine store_event (t := 72) (p := 6) (v := ?vo2) (w1 := (w6.setCell ⟨ga, 0, none⟩ (.func (.func 85) #[] #[.pointer (some ⟨gl, 0, none⟩), .pointer (some ⟨go, 0, none⟩), .pointer (some ⟨gn, 0, none⟩), .pointer (some ⟨ga, 0, none⟩)]))) ?hg ?ho ?hn ?hr ?_; (case ho => rfl); (case hg => rfl); (case hn => rfl); (case hr => first | (go_simp; done) | (go_simp; rfl)); intro w7 hw; have hne_ : ga ≠ go := (by have h_ := HM.out.far (i := 0) (j := 1) rfl rfl (by decide); exact fun e_ => h_ ga rfl e_.symm); have n_ : Aside0 (MS w w7 [.box ga 72 #[addV gl go gn ga], .box go 60 #[.slice A7 0 c7], .box gl 3 #[.int .i64 a1], .box gn 3 #[.int .i64 a0]]) := ⟨by rw [hw]; exact HM.out.setBox 0 rfl _ _ rfl⟩; have n2_ : Aside0 ((Kd.slice 3 (Kd.int .i64)).R 22 w7 w.heap.size (fun k_ => w.heap.size ≤ k_ ∧ k_ ≠ go) (.slice A7 0 c7) []) := ⟨by rw [hw]; exact Kd.R_mono (Kd.R_set (Kd.R_mono (Kd.R_bound HRo.out) (ok' := fun k_ => w.heap.size ≤ k_ ∧ k_ ≠ go) (fun _ h_ => h_.1)) (HM.out.box 0 rfl) (by decide) 0 _) (fun _ h_ => h_)⟩; clear HM hw hc6 hf6 HRo hne_; have HM := n_; have HRo := n2_; clear n_ n2_; have hc7 : w7.cell? ⟨ga, 0, none⟩ = some (.func (.func 85) #[] #[.pointer (some ⟨gl, 0, none⟩), .pointer (some ⟨go, 0, none⟩), .pointer (some ⟨gn, 0, none⟩), .pointer (some ⟨ga, 0, none⟩)]) := (blk_cell (HM.out.box 0 rfl) 0).trans rfl)
    | ((with_reducible refine gate_dst (N := 10) rfl ?_); refine Kd.R_lit (Kd.int .i64) _ 3 ?hg (N := 10) ?hd (xs := ([] : List Int)) (inner := []) (ok := fun _ => True) (okp := fun _ => True) ?hr ?hp (fun _ hk => hk) trivial (Below.refl _ _) (Nat.le_refl _) (by simp) ?_; (case hd => rfl); (case hg => rfl); (case hr => first | (go_simp; done) | (go_simp; rfl)); (case hp => exact (Reps.none _ _)); intro v8 w8 ho hb hg_ hnew_; have HW8 := Aside0.mk (Kd.R_lower (Kd.R_mono (Kd.R_bound ho) (ok' := fun k_ => w.heap.size ≤ k_ ∧ k_ ≠ go) (fun k_ hk_ => ⟨Nat.le_trans HM.out.size hk_.2.1, by have h1_ := hk_.2.1; have h2_ := blk_lt (HM.out.box 1 rfl); omega⟩)) HM.out.size); have n_ := Aside0.mk (HM.out.step hb); clear HM; have HM := n_; clear n_; have n_ := Aside0.mk (Kd.R_below HRo.out hb); clear HRo; have HRo := n_; clear n_; clear hb ho hg_ hnew_; obtain ⟨A8, c8, ev_⟩ := Kd.R_slice HW8.out; subst ev_)
    | (go_at_call 85; (refine (add_calls k a0 a1 w.heap.size gl go gn ga k [] 0 r0 A8 c8 _ (.slice A7 0 c7) [] ⟨HM.out.box 2 rfl, HM.out.box 3 rfl, HM.out.box 0 rfl, HM.out.box 1 rfl, HRo.out, HM.out.boxGe 1 rfl⟩ HW8.out HF.out (by have := HN.out; simp only [List.length_nil]; omega)).mono ?_); rintro e_ w9 ⟨v9, rfl, hW9, _, _, hb9⟩; have H9 := Aside0.mk hW9; have hc9 : w9.cell? ⟨go, 0, none⟩ = some v9 := (blk_cell hW9.ho 0).trans rfl; have HB9 := Aside0.mk (HM.out.below.trans hb9); clear hW9 hb9))
  go_ret
  refine ⟨v9, by first | rfl | (simp; done), ?_, HB9.out⟩
  have h_ := H9.out.hR
  rw [List.nil_append] at h_
  exact Kd.R_mono h_ (fun _ _ => trivial)
end Go.Proofs.Ytlbhfbanbdahdaa.Q
