/- In a region that draws its order: loads of arrays and their '==', told at whatever world. Conditions stand in each theorem. -/
import Derived.Test.YtlbhfbanbdahdaaHM
import Derived.Test.YtlbhfbanbdahdaaWLast
import Derived.Laws.Rows
namespace Go.Proofs.YtlbhfbanbdahdaaM
open Go.RowKit Go.Proofs.YtlbhfbanbdahdaaW.PrintWords Go.Proofs.YtlbhfbanbdahdaaW.PrintLast Go.Proofs.YtlbhfbanbdahdaaW.PrintMore
theorem load_arr {P : Program} {o : Oper} {a : Act} {w : World} (ty : TypeId) (x : Operand) (ho : o.op = .load ty x)
    (g : Nat) (hx : a.eval x = .pointer (some ⟨g, 0, none⟩)) (t : TypeId) (cs : Array Value) (fr : Nat × Nat) (d : TypeDesc) (hg : w.heap[g]? = some (.cells cs t fr))
    (hu : P.underlying ty = some d) (hd : (match d with | .struct _ | .array _ _ => true | _ => false) = true) (hi : (P.info? ty).map (·.size) = some cs.size) :
    (execOp a.eval o).run P w = .ok (.value (.agg cs)) w := by
  unfold execOp
  simp only [ho, hx, Instr.loadAt, Instr.sureAddr, Sem.run_bind, Sem.run_pure, Result.andThen_ok, run_loadVar_row w g t ty cs fr d hg hu hd hi]
theorem eqlB_run {P : Program} {oi : Oper} {a : Act} {w : World} {t e rt : TypeId} {n : Nat} {x y : Operand} {xs ys : List Bool} (ho : oi.op = .binOp .eql t x y rt) (hx : a.eval x = .agg (bcs xs)) (hy : a.eval y = .agg (bcs ys))
    (hm : P.eqGuardType P.depth t = false) (hu : P.underlying t = some (.array n e)) (he : P.plainKey e = true) (hb : P.underlying e = some .bool) (hi0 : (P.info? e).map (·.size) = some 1) (hs : P.cellsOf e = 1) (hl : xs.length = n) (hl2 : ys.length = n) :
    (execOp a.eval oi).run P w = .ok (.value (.bool (xs == ys))) w := by
  obtain ⟨ty, hi, _⟩ := Option.map_eq_some_iff.1 hi0
  unfold execOp
  simp only [ho, hx, hy, Sem.run_bind, run_eqGuard_agg w _ _ _ _ _ _ hm, Result.andThen_ok, run_eql_struct]
  rw [show (10000 : Nat) = 9999 + 1 from rfl, run_equalIn_array w 9999 _ _ hu hi, hs, eqItemsB w 9998 he hb xs ys _ (fun j hj => by have := List.mem_range.1 hj; omega)]
  subst hl
  rw [all_eq false xs ys hl2.symm]
  simp
/-! #### arrays of arrays, told as one list: an element, a part that is loaded, '==' -/
section
variable {P : Program}
def aggT (P : Program) (e : TypeId) : Bool := match P.underlying e with | some (.struct _) => true | some (.array _ _) => true | _ => false
theorem run_aggT {e : TypeId} (h : aggT P e = true) (w : World) : (isAgg e).run P w = .ok true w := by
  unfold aggT at h
  cases hu : P.underlying e with
  | none => rw [hu] at h; cases h
  | some d =>
    rw [hu] at h
    cases d <;> first | (simp [isAgg, run_underlying hu]; done) | (cases h; done)
theorem ics_part (l : List Int) (off m : Nat) : (ics l).extract off (off + m) = ics ((l.drop off).take m) := by simp [ics, List.map_take, List.map_drop]
theorem run_part_agg {e : TypeId} {m : Nat} (h : aggT P e = true) (hi : (P.info? e).map (·.size) = some m) (l : List Int) (off : Nat) (w : World) : (part e (ics l) off).run P w = .ok (.agg (ics ((l.drop off).take m))) w := by
  obtain ⟨ti, hti, hm⟩ := Option.map_eq_some_iff.1 hi
  simp only [part, Sem.run_bind, run_aggT h w, Result.andThen_ok, if_true, sizeOf, typeInfo, run_program, hti, hm, Sem.run_pure, ics_part]
variable {ops : Array Oper} {rest : List Oper} {oi : Oper} {a : Act} {w : World} {Q : Exit → Act → World → Prop}
theorem idxN (hgd : oi.guard = none) {t e : TypeId} {n m : Nat} {x y : Operand} {xs : List Int} {i : Int} (ho : oi.op = .index t x y) (hx : a.eval x = .agg (ics xs)) (hy : a.eval y = .int .i64 i)
    (hu : P.underlying t = some (.array n e)) (he : aggT P e = true) (hi0 : (P.info? e).map (·.size) = some m) (h0 : 0 ≤ i) (h1 : i < (n : Int))
    (h : wpList P ops Q rest (a.put oi.dst (.agg (ics ((xs.drop (i.toNat * m)).take m)))) w) : wpList P ops Q (oi :: rest) a w := by
  obtain ⟨ty, hi, hs⟩ := Option.map_eq_some_iff.1 hi0
  refine Kd.event_run hgd ?_ h
  unfold execOp
  simp only [ho, hx, hy]
  simp only [Instr.index, asIntOf, Sem.run_bind, Sem.run_pure, Result.andThen_ok, run_underlying hu]
  rw [if_pos ⟨h0, h1⟩]
  simp only [sizeOf, typeInfo, run_program, hi, hs, Sem.run_bind, Sem.run_pure, Result.andThen_ok, run_part_agg he hi0]
theorem run_loadVar_part {g off m : Nat} {t ty : TypeId} {l : List Int} {fr : Nat × Nat} (hg : w.heap[g]? = some (.cells (ics l) t fr)) (he : aggT P ty = true) (hi : (P.info? ty).map (·.size) = some m) (hm : off + m ≤ l.length) :
    (loadVar ty ⟨g, off, none⟩).run P w = .ok (.agg (ics ((l.drop off).take m))) w := by
  obtain ⟨ti, hti, hs⟩ := Option.map_eq_some_iff.1 hi
  have hl : (loadCells ⟨g, off, none⟩ (((l.drop off).take m).map (Value.int .i64)).length).run P w = .ok (((l.drop off).take m).map (Value.int .i64)).toArray w :=
    run_loadCells_list (P := P) w ⟨g, off, none⟩ _ (fun j v hv => by
      have hadd : (⟨g, off, none⟩ : Addr).add j = ⟨g, off + j, none⟩ := by unfold Addr.add; split <;> simp_all
      rw [hadd, cell_of_row w g (off + j) _ t fr hg]
      rw [List.getElem?_map, List.getElem?_take] at hv
      split at hv
      · rw [List.getElem?_drop] at hv
        simpa [ics] using hv
      · cases hv)
  have hlen : (((l.drop off).take m).map (Value.int .i64)).length = m := by rw [List.length_map, List.length_take, List.length_drop]; omega
  rw [hlen] at hl
  simp [loadVar, Sem.run_bind, run_aggT he w, sizeOf, typeInfo, hti, hs, hl, ics]
theorem wpList_load_part (hgd : oi.guard = none) {g off m : Nat} {t ty : TypeId} {l : List Int} {fr : Nat × Nat} {x : Operand} (ho : oi.op = .load ty x) (hx : a.eval x = .pointer (some ⟨g, off, none⟩)) (hg : w.heap[g]? = some (.cells (ics l) t fr)) (he : aggT P ty = true) (hi : (P.info? ty).map (·.size) = some m) (hm : off + m ≤ l.length)
    (h : wpList P ops Q rest (a.put oi.dst (.agg (ics ((l.drop off).take m)))) w) : wpList P ops Q (oi :: rest) a w := by
  refine Kd.event_run hgd ?_ h
  unfold execOp
  simp only [ho, hx, Instr.loadAt, Instr.sureAddr, Sem.run_bind, Sem.run_pure, Result.andThen_ok, run_loadVar_part hg he hi hm]
/-- '==' of two values of type t, m whole numbers each. -/
def FlatEq (P : Program) (t : TypeId) (m d0 : Nat) : Prop := ∀ (W : World) (d : Nat), d0 ≤ d → ∀ xs ys : List Int, xs.length = m → ys.length = m → (Op.equalIn d t (.agg (ics xs)) (.agg (ics ys))).run P W = .ok (xs == ys) W
theorem flat_base {t e : TypeId} {n : Nat} (hu : P.underlying t = some (.array n e)) (he : P.plainKey e = true) (hb : P.underlying e = some (.int .i64)) (hi0 : (P.info? e).map (·.size) = some 1) (hs : P.cellsOf e = 1) : FlatEq P t n 2 := by
  intro W d hd xs ys hl hl2
  obtain ⟨ty, hi, _⟩ := Option.map_eq_some_iff.1 hi0
  obtain ⟨d', rfl⟩ : ∃ d', d = d' + 1 + 1 := ⟨d - 2, by omega⟩
  rw [run_equalIn_array W (d' + 1) _ _ hu hi, hs, eqItemsI W d' he hb xs ys _ (fun j hj => by have := List.mem_range.1 hj; omega)]
  subst hl
  rw [all_eq (0 : Int) xs ys hl2.symm]
theorem eqItemsN {e : TypeId} {m d0 : Nat} (he : aggT P e = true) (hi : (P.info? e).map (·.size) = some m) (hF : FlatEq P e m d0) (W : World) (d : Nat) (hd : d0 ≤ d) (xs ys : List Int) : ∀ (is : List Nat), (∀ j ∈ is, (j + 1) * m ≤ xs.length ∧ (j + 1) * m ≤ ys.length) →
    (Op.eqItems d e m (ics xs) (ics ys) is).run P W = .ok (is.all fun j => (xs.drop (j * m)).take m == (ys.drop (j * m)).take m) W
  | [], _ => by simp [Op.eqItems]
  | j :: is, h => by
    have hj := h j (by simp)
    have ih := eqItemsN he hi hF W d hd xs ys is (fun k hk => h k (by simp [hk]))
    have hx : ((xs.drop (j * m)).take m).length = m := by rw [List.length_take, List.length_drop]; have := hj.1; rw [Nat.succ_mul] at this; omega
    have hy : ((ys.drop (j * m)).take m).length = m := by rw [List.length_take, List.length_drop]; have := hj.2; rw [Nat.succ_mul] at this; omega
    have he2 := hF W d hd _ _ hx hy
    simp only [Op.eqItems, Sem.run_bind, run_part_agg he hi, Result.andThen_ok, he2, List.all_cons]
    cases hq : ((xs.drop (j * m)).take m == (ys.drop (j * m)).take m) <;> simp [ih]
theorem chunks_eq (m : Nat) : ∀ (n : Nat) (xs ys : List Int), xs.length = n * m → ys.length = n * m → ((List.range n).all fun j => (xs.drop (j * m)).take m == (ys.drop (j * m)).take m) = (xs == ys)
  | 0, xs, ys, hx, hy => by
    rw [Nat.zero_mul] at hx hy
    rw [List.length_eq_zero_iff.1 hx, List.length_eq_zero_iff.1 hy]
    rfl
  | n + 1, xs, ys, hx, hy => by
    rw [Nat.succ_mul] at hx hy
    have ih := chunks_eq m n (xs.drop m) (ys.drop m) (by rw [List.length_drop]; omega) (by rw [List.length_drop]; omega)
    rw [List.range_succ_eq_map, List.all_cons, List.all_map]
    have hf : ((fun j => (xs.drop (j * m)).take m == (ys.drop (j * m)).take m) ∘ Nat.succ) = fun j => ((xs.drop m).drop (j * m)).take m == ((ys.drop m).drop (j * m)).take m := by
      funext j
      simp only [Function.comp, List.drop_drop, Nat.succ_mul]
      rw [Nat.add_comm (j * m) m]
    rw [hf, ih]
    simp only [Nat.zero_mul, List.drop_zero]
    rw [Bool.eq_iff_iff, Bool.and_eq_true, beq_iff_eq, beq_iff_eq, beq_iff_eq]
    constructor
    · rintro ⟨h1, h2⟩
      rw [← List.take_append_drop m xs, h1, h2, List.take_append_drop]
    · rintro rfl
      exact ⟨rfl, rfl⟩
theorem flat_step {t e : TypeId} {n m d0 : Nat} (hu : P.underlying t = some (.array n e)) (he : aggT P e = true) (hi : (P.info? e).map (·.size) = some m) (hs : P.cellsOf e = m) (hF : FlatEq P e m d0) : FlatEq P t (n * m) (d0 + 1) := by
  intro W d hd xs ys hl hl2
  obtain ⟨ty, hti, _⟩ := Option.map_eq_some_iff.1 hi
  obtain ⟨d', rfl⟩ : ∃ d', d = d' + 1 := ⟨d - 1, by omega⟩
  rw [run_equalIn_array W d' _ _ hu hti, hs, eqItemsN he hi hF W d' (by omega) xs ys _ (fun j hj => by
    have h1 := List.mem_range.1 hj
    have h2 : (j + 1) * m ≤ n * m := Nat.mul_le_mul_right m h1
    omega), chunks_eq m n xs ys hl hl2]
theorem eqlN (hgd : oi.guard = none) {t rt : TypeId} {m d0 : Nat} {x y : Operand} {xs ys : List Int} (ho : oi.op = .binOp .eql t x y rt) (hx : a.eval x = .agg (ics xs)) (hy : a.eval y = .agg (ics ys))
    (hm : P.eqGuardType P.depth t = false) (hF : FlatEq P t m d0) (hd : d0 ≤ 10000) (hl : xs.length = m) (hl2 : ys.length = m)
    (h : wpList P ops Q rest (a.put oi.dst (.bool (xs == ys))) w) : wpList P ops Q (oi :: rest) a w := by
  refine Kd.event_run hgd ?_ h
  unfold execOp
  simp only [ho, hx, hy, Sem.run_bind, run_eqGuard_agg w _ _ _ _ _ _ hm, Result.andThen_ok, run_eql_struct, hF w 10000 hd xs ys hl hl2]
  simp
end
end Go.Proofs.YtlbhfbanbdahdaaM
